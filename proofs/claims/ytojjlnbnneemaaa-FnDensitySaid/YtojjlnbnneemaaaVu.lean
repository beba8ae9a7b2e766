/- Regions that draw their order. -/
import Derived.Test.YtojjlnbnneemaaaVp
import Derived.StillTail
open List(range mem_cons mem_range mem_filter getElem_of_mem any_eq_true mem_singleton mem_filterMap)
open Nat(beq lt_or_ge le_refl le_of_not_lt)
open Bool(not_eq_true' or_eq_true)
open Array(getD_eq_getD_getElem?)
set_option linter.all false
namespace Go.Ve
variable{σ:List V}{op:Op}{ev ev':Operand->V}{P:Program}{K:V->Prop}
theorem KK(h:∀x∈op.operands,ev x=ev' x)(E:Nu P σ ev op K):Nu P σ ev' op K:=by
 have J:∀ps:Array (Nat×Operand),(∀x∈(ps.toList.map (·.2)).toArray,ev x=ev' x)->(ps.toList.map λp=>(p.1,ev p.2))=ps.toList.map λp=>(p.1,ev' p.2):=by
  intro ps hp;apply List.map_congr_left;intro p O;rw[hp p.2 (by simp only[List.mem_toArray,List.mem_map];exact⟨p,O,rfl⟩)]
 unfold Nu at E⊢;cases op<;>simp only[Op.operands]at h<;>simp only at E⊢ <;>try exact E
 case call c=>
  obtain⟨callee,args,ats⟩:=c;have O:args.toList.map ev=args.toList.map ev':=List.map_congr_left λx Z=>h x (by simp[Call.operands];right;simpa using Z)
  cases callee with
  |value f=>
   have Y:ev f=ev' f:=h f (by simp[Call.operands])
   cases f<;>simp only at E⊢ <;>first|exact E|(rw[<-O,<-Y];exact E)|(rw[<-O];exact E)
  |invoke r m=>
   have Y:ev r=ev' r:=h r (by simp[Call.operands])
   simp only at E⊢;rw[<-O,<-Y];exact E
  |builtin b=>simp only at E⊢;rw[<-O];exact E
 case build t ps=>rw[<-J ps h];exact E
 case buildSlice t n ps=>rw[<-J ps h];exact E
 case slice t x U W mx=>
  have h1:U.map ev=U.map ev':=by cases U with|none=>rfl|some y=>simp;exact h y (by simp)
  have h2:W.map ev=W.map ev':=by cases W with|none=>rfl|some y=>simp;exact h y (by simp)
  rw[<-h1,<-h2,<-h x (by simp)];exact E
 all_goals (simp at h;simp_all)
theorem Qb(E:Nu P σ ev op K):∃r,K r/\∀K':V->Prop,K' r->Nu P σ ev op K':=by
 unfold Nu at E⊢;cases op<;>simp only at E⊢ <;>try exact E.elim
 case move x=>exact⟨_,E.2,λK' J=>⟨E.1,J⟩⟩
 case assign x=>exact⟨_,E.2,λK' J=>⟨E.1,J⟩⟩
 case pick c x y=>
  unfold Wo at E⊢;split at E<;>try exact E.elim
  rename_i b hb;obtain⟨O,U,Y,Z⟩:=E;cases b
  .exact⟨_,Z rfl,λK' J=>⟨O,U,(λh=>by cases h),λ_=>J⟩⟩
  .exact⟨_,Y rfl,λK' J=>⟨O,U,λ_=>J,(λh=>by cases h)⟩⟩
 case load t x=>
  unfold Ib at E⊢;split at E<;>try exact E.elim
  .split at E<;>try exact E.elim
   .exact⟨_,E.2,λK' J=>⟨E.1,J⟩⟩
   .exact⟨_,E.2,λK' J=>⟨E.1,J⟩⟩
   .exact⟨_,E.2,λK' J=>⟨E.1,J⟩⟩
  .split at E<;>try exact E.elim
   .exact⟨_,E.2,λK' J=>⟨E.1,J⟩⟩
   .exact⟨_,E.2.2,λK' J=>⟨E.1,E.2.1,J⟩⟩
   .exact⟨_,E.2,λK' J=>⟨E.1,J⟩⟩
 case fieldAddr t x k=>
  unfold Ju at E⊢;split at E<;>try exact E.elim
  split at E<;>try exact E.elim
  .exact⟨_,E.2,λK' J=>⟨E.1,J⟩⟩
  .exact⟨_,E.2,λK' J=>⟨E.1,J⟩⟩
  .exact⟨_,E.2,λK' J=>⟨E.1,J⟩⟩
 case indexAddr t x i=>
  unfold B9 at E⊢;split at E<;>try exact E.elim
  split at E<;>try exact E.elim
  .exact⟨_,E.2.2.2,λK' J=>⟨E.1,E.2.1,E.2.2.1,J⟩⟩
  .exact⟨_,E.2.2.2,λK' J=>⟨E.1,E.2.1,E.2.2.1,J⟩⟩
 case index t x i=>
  rcases E with⟨_,E⟩|⟨_,E⟩<;>exact False.elim E
 case nilCheck x=>
  unfold Abb at E⊢;split at E<;>try exact E.elim
  .exact⟨_,E,λK' J=>J⟩
  .exact⟨_,E,λK' J=>J⟩
  .exact⟨_,E.2,λK' J=>⟨E.1,J⟩⟩
 case binOp op t x y yt=>
  unfold Uv at E⊢;split at E
  .split at E
   .rename_i h;exact⟨_,E.2,λK' J=>by first|exact⟨E.1,J⟩|(simp only[h];exact⟨E.1,J⟩)⟩
   .rename_i h;obtain⟨z,O,U,Y,W⟩:=E;exact⟨z,W,λK' J=>by first|exact⟨z,O,U,Y,J⟩|(simp only[h];exact⟨z,O,U,Y,J⟩)⟩
  .obtain⟨z,O,U,Y,W⟩:=E;exact⟨z,W,λK' J=>⟨z,O,U,Y,J⟩⟩
 case unOp op t x=>
  unfold qUn at E⊢;split at E<;>try exact E.elim
  .exact⟨_,E,λK' J=>J⟩
  .exact⟨_,E,λK' J=>J⟩
 case convert s d x=>
  unfold KN at E⊢;unfold O5 at E⊢;split at E
  .exact⟨_,E,λK' J=>J⟩
  .exact⟨_,E,λK' J=>J⟩
  .split at E
   .rename_i h;exact⟨_,E,λK' J=>by first|exact J|(simp only[h];exact J)⟩
   .exact E.elim
  .obtain⟨z,O,U,W⟩:=E;exact⟨z,W,λK' J=>⟨z,O,U,J⟩⟩
 case extract x i=>
  unfold CC at E⊢;split at E<;>try exact E.elim
  exact⟨_,E.2.2,λK' J=>⟨E.1,E.2.1,J⟩⟩
 case build t ps=>
  unfold KO at E⊢;split at E<;>try exact E.elim
  obtain⟨O,E⟩:=E;split at E<;>try exact E.elim
  rename_i h;exact⟨_,E,λK' J=>⟨O,J⟩⟩
 case buildSlice t n ps=>
  unfold Cb at E⊢;split at E<;>try exact E.elim
  obtain⟨O,U,E⟩:=E;split at E<;>try exact E.elim
  rename_i h;exact⟨_,E.2,λK' J=>⟨O,U,E.1,J⟩⟩
 case alloc t=>
  unfold NG at E⊢;split at E<;>try exact E.elim
  exact⟨_,E.2,λK' J=>⟨E.1,J⟩⟩
 case box t x=>
  obtain⟨O,U|U⟩:=E
  .exact⟨_,U.2,λK' J=>⟨O,.inl ⟨U.1,J⟩⟩⟩
  .exact⟨_,U,λK' J=>⟨O,.inr J⟩⟩
 case makeSlice t l c=>
  unfold Wq at E⊢;split at E<;>try exact E.elim
  exact⟨_,E.2.2,λK' J=>⟨E.1,E.2.1,J⟩⟩
 case slice t x lo hi mx=>
  obtain⟨h0,E⟩:=E;unfold KL at E⊢;split at E<;>try exact E.elim
  all_goals
   split at E<;>try exact E.elim
   rename_i O U
  .exact⟨_,E.2,λK' J=>⟨h0,E.1,J⟩⟩
  .exact⟨_,E.2.2,λK' J=>⟨h0,E.1,E.2.1,J⟩⟩
  .exact⟨_,E.2.2,λK' J=>⟨h0,E.1,E.2.1,J⟩⟩
 case call c=>
  obtain⟨callee,args,ats⟩:=c;simp only at E⊢;split at E
  .obtain⟨r,O,U,W⟩:=E;exact⟨r,W,λK' J=>⟨r,O,U,J⟩⟩
  .exact False.elim E
  .unfold LW at E⊢
   split at E<;>try exact E.elim
   .rcases E with⟨O,E⟩|⟨O,l,U,E⟩
    case inr=>exact⟨_,E,λK' J=>.inr ⟨O,l,U,J⟩⟩
    unfold qLen at E⊢;split at E<;>first|exact E.elim|exact⟨_,E,λK' J=>.inl ⟨O,J⟩⟩
   .unfold DG at E⊢
    split at E<;>first|exact E.elim|exact⟨_,E,λK' J=>J⟩
   .unfold DG at E⊢
    split at E<;>first|exact E.elim|exact⟨_,E,λK' J=>J⟩
  .exact False.elim E
  .exact E.elim
 case makeMap t n=>exact⟨_,E.2,λK' J=>⟨E.1,J⟩⟩
 case lookup t x i co=>
  obtain⟨kt,et,l,k,z,O,U,Y,Z,h5,h6,h7,W⟩:=E;exact⟨_,W,λK' J=>⟨kt,et,l,k,z,O,U,Y,Z,h5,h6,h7,J⟩⟩
 all_goals
  first
  |exact False.elim E
  |(split at E<;>exact False.elim E)
def Wm(h:∀x∈op.operands,ev x=ev' x)(E:qop P σ ev op K):qop P σ ev' op K:=KK h E
def Wl(J:qop P σ ev op K):∃r,K r/\qop P σ ev op (λr'=>r'=r):=by
 obtain⟨r0,⟨r,E,O⟩,hd⟩:=Qb J;exact⟨r,O,hd _ ⟨r,E,rfl⟩⟩
theorem Nt{K':V->Prop}(E:Nu P σ ev op K)(h:∀r,K r->K' r):Nu P σ ev op K':=by
 obtain⟨r,J,hd⟩:=Qb E
 grind
end Go.Ve


namespace Go.Ve
variable{a:Act}{ops:Array Oper}{C:Ctx}{h:Cy}{σ:List V}{N i j n x y:Nat}{B F T:Nat->Nat->Prop}{A D fp:Nat->Prop}{t:Nat->V}{ρ:Nat->Value}{o:Oper}{w:World}
def QK(h:Cy)(d:Option Nat)(t:Nat->V)(K:(Nat->V)->Prop)(r:V):Prop:=
 match d with
 |some d=>d<h.n/\K (AI t d (if h.fz.contains d then frz r else r))
 |none=>False
def Kf(t:Nat->V)(d:Option Nat):Nat->V:=
 match d with
 |some d=>AI t d udV
 |none=>t
def YO(ops:Array Oper)(y:Nat):Bool:=decide (((range ops.size).filter λj=>match ops[j]? with
 |some o=>(o.looksAt ops).contains y
 |none=>false).length<=1)
def AH(ops:Array Oper)(i:Nat):Option Nat:=(ops[i]?).bind (·.dst)
def mvB(ops:Array Oper)(o:Oper)(y:Nat):Bool:=(o.looksAt ops).contains y&&YO ops y&&o.after.toList.any λe=>Region.binds .any e&&(match AH ops e.on with
 |some d=>beq d y
 |none=>false)
def NZ(c:Nat):V->V
 |.many t n f=>.many t n λk=>if k=c then .dead else f k
 |v=>v
inductive Tk where
 |all
 |part (c:Nat)
 |put (v:V)
variable{m:Nat->List (Nat×Tk)}
def Tk.isPart:Tk->Bool
 |.part _=>true
 |_=>false
def hdV:V->V
 |.nd true true _ n _=>.nd true false 0 n λ_ _=>.dead
 |_=>.dead
theorem Rel.hd{R:V->Value->Prop}{v:V}{cv:Value}(h:Rel D w R v cv fp):Rel D w R (hdV v) cv noF:=by
 unfold hdV;split
 .rcases h with⟨h1,Z,Y,_⟩|⟨b,o,cap,F,U,J,E,W,_⟩
  .exact .inl ⟨h1,Z,Qn Y,λ_ h=>h⟩
  .exact .inr ⟨b,o,cap,λ_ _=>noF,U,J,E,W,λ_ _ _ O=>absurd O (Nat.not_lt_zero _),λ_=>⟨λh=>absurd h (by simp),λ_ _ _ _ O=>absurd O (Nat.not_lt_zero _),λ_ h=>h⟩,λh=>by grind⟩
 .exact λ_ h=>h
def kapp(E:Tk)(v:V):V:=match E with
 |.all=>.dead
 |.part c=>NZ c v
 |.put u=>u
def H1(o:Option Tk)(v:V):V:=match o with
 |some E=>kapp E v
 |none=>v
theorem UK(a b:Nat)(v:V):NZ a (NZ b v)=NZ b (NZ a v):=by
 cases v<;>try rfl
 show V.many _ _ _=V.many _ _ _
 grind
def W4(a b:Option Tk)(v:V)(h:∀x y,a=some x->b=some y->x.isPart=true/\y.isPart=true):H1 a (H1 b v)=H1 b (H1 a v):=by
 cases a with
 |none=>rfl
 |some x=>
  cases b with
  |none=>rfl
  |some y=>
   obtain⟨J,E⟩:=h x y rfl rfl;cases x<;>first|trivial|skip
   cases y<;>first|cases E|rfl
   exact UK _ _ _
def Bo:List (Nat×Tk)->Nat->Option Tk
 |[],_=>none
 |(y,tk)::l,x=>if y=x then some tk else Bo l x
def CL:∀{l:List (Nat×Tk)}{x:Nat}{E:Tk},Bo l x=some E->(x,E)∈l
 |[],_,_,h=>by cases h
 |(y,tk')::l,x,E,h=>by
  unfold Bo at h;split at h
  .grind
  .exact mCM _ (CL h)
def AP(ys:List (Nat×Tk))(t:Nat->V):Nat->V:=λx=>H1 (Bo ys x) (t x)
def DM(t:Nat->V):AP [] t=t:=rfl
def D4(ops:Array Oper)(y:Nat):Bool:=(range ops.size).all λj=>match AH ops j with
 |some d=>!beq d y
 |none=>true
def mvR(ops:Array Oper)(o:Oper)(y:Nat):Bool:=(o.looksAt ops).contains y&&YO ops y&&D4 ops y
def Mc(ops:Array Oper)(y:Nat):List Nat:=(range ops.size).filter λj=>match ops[j]? with
 |some o=>(o.looksAt ops).contains y
 |none=>false
def Le(ops:Array Oper):List Nat->Bool
 |[]=>true
 |i::l=>(match l with
  |[]=>true
  |j::_=>Region.waitsFor .any ops j i)&&Le ops l
def mvC(ops:Array Oper)(o:Oper)(y:Nat):Bool:=(o.looksAt ops).contains y&&D4 ops y&&Le ops (Mc ops y)
def Ha(op:Op):List Nat:=op.operands.toList.filterMap λx=>match x with
 |.tmp y=>some y
 |_=>none
def isFn:Op->Bool
 |.call c=>match c.callee with
  |.value (.func _)=>true
  |_=>false
 |_=>false
def alM(h:Cy)(ops:Array Oper)(o:Oper):Bool:=o.guard.isNone&&(match o.op,o.dst with
 |.move (.tmp y),some z=>h.fz.contains (3000000+y)&&D4 ops y&&ops.toList.any λc=>isFn c.op&&(Ha c.op).contains z
 |_,_=>false)
def alB(h:Cy)(ops:Array Oper)(o:Oper)(y:Nat):Bool:=o.after.toList.any λe=>Region.binds .any e&&(match ops[e.on]? with
 |some c=>alM h ops c&&(match c.op,c.dst with
  |.move (.tmp y'),some z=>beq y' y&&(Ha o.op).contains z
  |_,_=>false)
 |none=>false)
def alU(h:Cy)(ops:Array Oper)(y:Nat):List Nat:=(range ops.size).filter λj=>match ops[j]? with
 |some o=>alB h ops o y
 |none=>false
def Q2(h:Cy)(ops:Array Oper)(o:Oper)(p:Nat×Tk):Bool:=!p.2.isPart&&alB h ops o p.1&&D4 ops p.1&&Le ops (alU h ops p.1)&&(range ops.size).all λj=>match ops[j]? with
 |some oj=>!(oj.looksAt ops).contains p.1||alM h ops oj
 |none=>true
def AlP(h:Cy)(ops:Array Oper)(o:Oper)(z y:Nat):Prop:=∃e∈o.after,Region.binds .any e=true/\∃c,ops[e.on]? =some c/\alM h ops c=true/\c.op=.move (.tmp y)/\c.dst=some z
def WS(ops:Array Oper)(i j:Nat):Prop:=j<i/\∀listed:Array Bool,(∀k ok,ops[k]? =some ok->listed.getD k false=true->∀e∈ok.after,Region.binds .any e=true->listed.getD e.on false=true)->
 (∀oi,ops[i]? =some oi->∀e∈oi.after,Region.binds .any e=true->listed.getD e.on false=true)->listed.getD j false=true
theorem WS.of(W:∀o e,ops[i]? =some o->e∈o.after->Region.binds .any e=true->e.on<i)(h:Region.waitsFor .any ops i j=true):WS ops i j:=by
 obtain⟨o,E,e,J,U,O⟩:=Region.waitsFor_spec h;exact⟨O▸W o e E J U,λlisted _ Y=>O▸Y o E e J U⟩
theorem WS.trans{k:Nat}(Z:∃o,ops[j]? =some o)(h:WS ops i j)(O:WS ops j k):WS ops i k:=by
 refine⟨Nat.lt_trans O.1 h.1,λlisted J U=>O.2 listed J λoj E e W Y=>?_⟩
 exact J j oj E (h.2 listed J U) e W Y
theorem WS.listed{ops:Array Oper}{i j:Nat}(h:WS ops i j){listed:Array Bool}(J:∀k ok,ops[k]? =some ok->listed.getD k false=true->∀e∈ok.after,Region.binds .any e=true->listed.getD e.on false=true)(O:listed.getD i false=true):listed.getD j false=true:=
 h.2 listed J λoi E e U W=>J i oi E O e U W
theorem JZ{ops:Array Oper}(O:∀j o e,ops[j]? =some o->e∈o.after->Region.binds .any e=true->e.on<j):∀{l:List Nat},Le ops l=true->(∀i∈l,∃o,ops[i]? =some o)->l.Pairwise λi j=>WS ops j i
 |[],_,_=>List.Pairwise.nil
 |i::l,h,hs=>by
  unfold Le at h;rw[bAE]at h;have J:=JZ O h.2 λi U=>hs i (mCM _ U)
  refine List.pairwise_cons.2 ⟨λk E=>?_,J⟩
  cases l with
  |nil=>grind
  |cons j l=>
   have W:=WS.of (O j) h.1;rcases mem_cons.1 E with rfl|E
   .grind
   .exact((List.pairwise_cons.1 J).1 k E).trans (hs j (by simp)) W
theorem U1{oi oj:Oper}(hb:∀j o e,ops[j]? =some o->e∈o.after->Region.binds .any e=true->e.on<j)(h:Le ops (Mc ops y)=true)(hi:ops[i]? =some oi)(U:y∈oi.looksAt ops)(hj:ops[j]? =some oj)(O:y∈oj.looksAt ops):j=i\/WS ops i j\/WS ops j i:=by
 have E:∀k ok,ops[k]? =some ok->y∈ok.looksAt ops->k∈Mc ops y:=by
  intro k ok W hyk;unfold Mc
  grind
 have hp:=JZ hb h λk W=>by
  have W:=mem_range.1 (mem_filter.1 W).1;exact⟨ops[k],by simp⟩
 obtain⟨a,ha,Z⟩:=getElem_of_mem (E i oi hi U);obtain⟨b,J,Y⟩:=getElem_of_mem (E j oj hj O);rcases Nat.lt_trichotomy a b with hlt|heq|hlt
 .have:=List.pairwise_iff_getElem.1 hp a b ha J hlt
  rw[Z,Y]at this;exact .inr (.inr this)
 .subst heq
  exact .inl (Y.symm.trans Z)
 .have:=List.pairwise_iff_getElem.1 hp b a J ha hlt
  rw[Z,Y]at this;exact .inr (.inl this)
theorem CK(h:D4 ops y=true):∀j,AH ops j≠some y:=by
 intro j J;have E:j<ops.size:=by
  rcases lt_or_ge j ops.size with h|h
  .omega
  .unfold AH at J
   grind
 have:=aET.1 h j (mem_range.2 E)
 simp_all
def exB(ops:Array Oper)(o:Oper)(y c:Nat):Bool:=(o.looksAt ops).contains y&&((range ops.size).all λj=>match ops[j]? with
 |some oj=>!(oj.looksAt ops).contains y||(oj.guard.isNone&&(match oj.op with
  |.extract (.tmp y') c'=>beq y' y&&(!beq c' c||oj.dst==o.dst)
  |_=>false))
 |none=>true)&&o.after.toList.any λe=>Region.binds .any e&&(match AH ops e.on with
 |some d=>beq d y
 |none=>false)
def Jc(ops:Array Oper)(o:Oper)(p:Nat×Tk):Bool:=match p.2 with
 |.all=>mvB ops o p.1
 |.part c=>exB ops o p.1 c
 |.put _=>mvB ops o p.1||mvR ops o p.1||mvC ops o p.1
structure PR(C:Ctx)(N:Nat)(σ:List V)(ρ:Nat->Value)(F:Nat->Nat->Prop)(t:Nat->V)(a:Act)(w:World)(D:Nat->Prop)(T:Nat->Nat->Prop):Prop where
 df:a.defers=[]
 sz:a.tmps.size=N
 dd:∀x,N<=x->t x=.dead
 wr:Bu σ w D ρ F
 tm:∀x,x<N->Rel D w (Aq σ ρ w) (t x) (a.tmps.getD x undef) (T x)
 tD:∀x b,T x b->¬D b
 tF:∀i x b,F i b->¬T x b
 tT:∀x y b,x≠y->T x b->¬T y b
 tn:∀x b,T x b->C.W b\/C.w0.heap.size<=b
 fr:Fr C.w0 w C.W
 Fn:∀i b,F i b->C.W b\/C.w0.heap.size<=b
 D1:∀b,C.D0 b->D b
 D2:∀b,D b->b<C.w0.heap.size->C.D0 b\/C.W b
 rt:∀i,i<C.m->ρ i=C.ρ0 i
 ml:C.m<=σ.length
 tx:∀x b,N<=x->¬T x b
def mq(t:Nat->V)(o:Oper)(ys:List (Nat×Tk))(r:V):Prop:=
 (∃y,(o.op=.assign (.tmp y)\/o.op=.move (.tmp y))/\ys=[(y,.put (hdV r))]/\r=t y)\/
 ∃y c n f,o.op=.extract (.tmp y) c/\ys=[(y,.part c)]/\t y=.many .tu n f/\c<n/\r=f c
def Iy(d:Option Nat)(r:V)(t:Nat->V):Nat->V:=match d with
 |some d=>AI t d r
 |none=>t
def UA:Op->Bool
 |.extract _ _=>false
 |_=>true
def PR.ok{C:Ctx}{N:Nat}{σ:List V}{ρ:Nat->Value}{F:Nat->Nat->Prop}{t:Nat->V}{a:Act}{w:World}{D:Nat->Prop}{T:Nat->Nat->Prop}(h:PR C N σ ρ F t a w D T):Wok w:=
 C.ok.1.same λp E=>h.fr.block p.1 (C.ok.1.lt E) (C.ok.2 p E)
def LQ(P:Program)(N:Nat)(σ:List V)(Al:Nat->Nat->Prop)(o:Oper)(t:Nat->V)(ys:List (Nat×Tk))(r:V):Prop:=
 ∀(C:Ctx) (ρ:Nat->Value) (F:Nat->Nat->Prop) (a:Act) (w:World) (D:Nat->Prop) (T:Nat->Nat->Prop) (E:Nat->V),(∀x,(x∈Ha o.op\/Bo ys x≠none)->E x=t x)->(∀z y,Al z y->a.tmps.getD z undef=a.tmps.getD y undef)->PR C N σ ρ F E a w D T->
  ∀(next:Act->World->Prop) (Q:Exit->Act->World->Prop),(∀J w' D' T',PR C N σ ρ F (Iy o.dst r (AP ys E)) J w' D' T'->(∀x b,T' x b->o.dst=some x\/∃O,T x O)->(∀x,o.dst≠some x->J.tmps[x]? =a.tmps[x]?)->next J w')->o.wp P a w next Q
def vq(P:Program)(h:Cy)(ops:Array Oper)(σ:List V):List Oper->((Nat->V)->Prop)->(Nat->V)->Prop
 |[],K,t=>K t
 |o::rest,K,t=>match o.guard with
  |none=>(alM h ops o=false/\(qop P σ (Ms.ev ⟨t,σ⟩) o.op (QK h o.dst t (vq P h ops σ rest K))\/(∃ys d r,o.dst=some d/\d<h.n/\h.fz.contains d=false/\(∀p∈ys,Jc ops o p=true)/\mq t o ys r/\vq P h ops σ rest K (AI (AP ys t) d r))\/
   ∃ys r,(∀p∈ys,Jc ops o p=true\/Q2 h ops o p=true)/\UA o.op=true/\LQ P h.n σ (AlP h ops o) o t ys r/\vq P h ops σ rest K (Iy o.dst r (AP ys t))))\/
   (alM h ops o=true/\∃d,o.dst=some d/\d<h.n/\vq P h ops σ rest K (AI t d .dead))
  |some (j,want)=>match gv t ops j with
   |.c (.bool b)=>(b=want->qop P σ (Ms.ev ⟨t,σ⟩) o.op (QK h o.dst t (vq P h ops σ rest K)))/\(b=(!want)->(∀d,o.dst=some d->d<h.n)/\vq P h ops σ rest K (Kf t o.dst))
   |v=>v=udV/\(∀d,o.dst=some d->d<h.n)/\vq P h ops σ rest K (Kf t o.dst)
def gskip(v:V)(E:Bool):Prop:=v=.c (.bool (!E))\/v=udV
def promA:List (Option Nat)->Ms->Ms
 |[],S=>S
 |none::ds,S=>promA ds S
 |some d::ds,S=>if AN (S.t d)then promA ds ⟨AI S.t d (prom (S.t d) S.σ.length).1,S.σ++(prom (S.t d) S.σ.length).2⟩else promA ds S
def ZW:Op->Bool
 |.select _ _=>false
 |_=>true
def flB(ops:Array Oper)(n f:Nat):Bool:=(range n).all (λi=>i==f||Region.waitsFor .any ops n i)&&match ops[f]? with
 |some o=>o.guard.isNone&&match o.op,o.dst with
  |.extract (.tmp y) _,some d=>(range ops.size).all λt=>decide (t<n)||Region.waitsFor .any ops t f||match ops[t]? with
   |some ot=>!(ot.looksAt ops).contains d&&ot.dst !=some d&&ot.dst !=some y&&ZW ot.op
   |none=>true
  |_,_=>false
 |none=>false
structure FL(ops:Array Oper)(n f:Nat):Prop where
 fn:f<n
 others:∀i,i<n->i≠f->Region.waitsFor .any ops n i=true
 it:∃o y c d,ops[f]? =some o/\o.guard=none/\o.op=.extract (.tmp y) c/\o.dst=some d/\∀t ot,n<=t->ops[t]? =some ot->Region.waitsFor .any ops t f=false->d∉ot.looksAt ops/\ot.dst≠some d/\ot.dst≠some y/\∀cs b,ot.op≠.select cs b
theorem Zd{f:Nat}(hf:f<n)(h:flB ops n f=true):FL ops n f:=by
 unfold flB at h;rw[bAE]at h;obtain⟨h1,E⟩:=h;refine⟨hf,λi hi Z=>?_,?_⟩
 .grind
 .split at E
  case h_2=>cases E
  rename_i o Y;rw[bAE]at E;obtain⟨hg,E⟩:=E;split at E
  case h_2=>cases E
  rename_i y c d O hd;refine⟨o,y,c,d,Y,by simpa using hg,O,hd,λt ot ht J W=>?_⟩
  have:=aET.1 E t (mem_range.2 (Array.getElem?_eq_some_iff.1 J).1);rw[J,W]at this;have U:¬t<n:=by omega
  simp only[U,decide_false,Bool.false_or,bAE,not_eq_true',bne_iff_ne,ne_eq]at this;obtain⟨⟨⟨g1,g2⟩,g3⟩,g4⟩:=this;refine⟨λhm=>?_,g2,g3,λcs b e=>?_⟩
  .have:(ot.looksAt ops).contains d=true:=by simpa using hm
   rw[g1]at this;cases this
  .rw[e]at g4;cases g4
def Qa(ops:Array Oper)(n:Nat):Bool:=
 decide (n<=ops.size)&&
 (range n).all (λi=>match ops[i]? with
  |none=>false
  |some oi=>match oi.dst with
   |none=>true
   |some d=>!(oi.looksAt ops).contains d&&(range n).all λj=>j==i||match ops[j]? with
    |none=>false
    |some oj=>oj.dst !=some d&&(!(oj.looksAt ops).contains d||Region.waitsFor .any ops j i))&&
 (range ops.size).all (λj=>match ops[j]? with
  |some o=>o.after.toList.all λe=>!Region.binds .any e||decide (e.on<j)
  |none=>false)
def Ia(ops:Array Oper)(n:Nat):Bool:=
 Qa ops n&&(n==ops.size||(Region.chainB .any ops n&&(Region.sinkB .any ops n||(range n).any (flB ops n))))
structure QOK(ops:Array Oper)(n:Nat):Prop where
 le:n<=ops.size
 dst:∀i,i<n->∃oi,ops[i]? =some oi/\∀d,oi.dst=some d->d∉oi.looksAt ops
 ne:∀i j d oj,i<n->j<n->i≠j->AH ops i=some d->ops[j]? =some oj->oj.dst≠some d/\(d∈oj.looksAt ops->∃e∈oj.after,Region.binds .any e=true/\e.on=i)
 back:∀j o e,ops[j]? =some o->e∈o.after->Region.binds .any e=true->e.on<j
def QU(ops:Array Oper)(n:Nat):Prop:=n=ops.size\/(Region.chainB .any ops n=true/\(Region.sinkB .any ops n=true\/∃f,FL ops n f))
theorem Js(h:Qa ops n=true):QOK ops n:=by
 simp only[Qa,bAE,decide_eq_true_eq]at h;obtain⟨⟨h1,h2⟩,h3⟩:=h
 have hd:∀i,i<n->∃oi,ops[i]? =some oi/\∀d,oi.dst=some d->d∉oi.looksAt ops/\∀j,j<n->j≠i->∃oj,ops[j]? =some oj/\oj.dst≠some d/\(d∈oj.looksAt ops->Region.waitsFor .any ops j i=true):=by
  intro i hi;have:=aET.1 h2 i (mem_range.2 hi);split at this
  .cases this
  .rename_i oi O
   refine⟨oi,O,λd hd=>?_⟩
   rw[hd]at this
   .simp only[bAE,not_eq_true']at this
    obtain⟨ha,hb⟩:=this;refine⟨by simpa using ha,λj U hne=>?_⟩
    have E:=aET.1 hb j (mem_range.2 U);simp only[or_eq_true,beq_iff_eq,hne,false_or]at E;split at E
    .cases E
    .rename_i oj J
     simp only[bAE,bne_iff_ne,ne_eq,or_eq_true,not_eq_true']at E;refine⟨oj,J,E.1,λhm=>?_⟩
     rcases E.2 with h|h
     .simp at h;exact absurd hm h
     .exact h
 refine⟨h1,λi hi=>?_,λi j d oj hi U hij hdi J=>?_,λj o e U he hb=>?_⟩
 .obtain⟨oi,a,b⟩:=hd i hi;exact⟨oi,a,λd h=>(b d h).1⟩
 .obtain⟨oi,O,hd'⟩:=hd i hi
  have hdd:oi.dst=some d:=by simpa [AH,O]using hdi
  obtain⟨_,hall⟩:=hd' d hdd;obtain⟨W,Z,g1,g2⟩:=hall j U (Ne.symm hij);have:W=oj:=Option.some.inj (Z.symm.trans J);subst this;refine⟨g1,λhm=>?_⟩
  obtain⟨oj2,Y,e,he,hb,hon⟩:=Region.waitsFor_spec (g2 hm);have:oj2=W:=Option.some.inj (Y.symm.trans J);subst this;exact⟨e,he,hb,hon⟩
 .have hlt:j<ops.size:=(Array.getElem?_eq_some_iff.1 U).1
  have:=aET.1 h3 j (mem_range.2 hlt);rw[U]at this;have:=aET.1 this e (by simpa using he)
  simp[hb]at this;exact this
theorem Nr(h:Ia ops n=true):QOK ops n/\QU ops n:=by
 simp only[Ia,bAE,or_eq_true,beq_iff_eq]at h;refine⟨Js h.1,?_⟩;have E:=h.2;rcases E with E|⟨E,J|J⟩
 .exact .inl E
 .exact .inr ⟨E,.inl J⟩
 .obtain⟨f,O,U⟩:=any_eq_true.1 J
  exact .inr ⟨E,.inr ⟨f,Zd (mem_range.1 O) U⟩⟩
def Acw:Op->Bool
 |.fieldAddr _ _ _=>true
 |.load _ _=>true
 |.move _=>true
 |.indexAddr _ _ _=>true
 |_=>false
def flsB(ops:Array Oper)(n:Nat)(fs:List Nat):Bool:=decide (n+1<ops.size)&&Region.chainB .any ops n&&fs.all (λf=>decide (f<n)&&Region.waitsFor .any ops (n+1) f)&&
 (range n).all (λi=>fs.contains i||(range (n+1)).any λj=>decide (i<j)&& !fs.contains j&&Region.waitsFor .any ops j i)&&
 match ops[n]? with
 |some on=>on.guard.isNone&&ZW on.op&&match on.dst with
  |some dn=>fs.all λf=>match ops[f]? with
   |some o=>o.guard.isNone&&Acw o.op&&match o.dst with
    |some d=>!(on.looksAt ops).contains d&&dn !=d&& !(o.looksAt ops).contains dn
    |none=>false
   |none=>false
  |none=>false
 |none=>false
structure FLS(ops:Array Oper)(n:Nat)(fs:List Nat):Prop where
 lt1:n+1<ops.size
 chain:Region.chainB .any ops n=true
 lt:∀f∈fs,f<n/\Region.waitsFor .any ops (n+1) f=true
 others:∀i,i<n->i∉fs->∃j,i<j/\j<=n/\j∉fs/\Region.waitsFor .any ops j i=true
 it:∃on dn,ops[n]? =some on/\on.guard=none/\on.dst=some dn/\(∀cs b,on.op≠.select cs b)/\∀f∈fs,∃o d,ops[f]? =some o/\o.guard=none/\Acw o.op=true/\o.dst=some d/\d∉on.looksAt ops/\dn≠d/\dn∉o.looksAt ops
theorem Xo{fs:List Nat}(h:flsB ops n fs=true):FLS ops n fs:=by
 unfold flsB at h;simp only[bAE,decide_eq_true_eq]at h;obtain⟨⟨⟨⟨h1,h2⟩,h3⟩,h4⟩,h5⟩:=h;refine⟨h1,h2,λf O=>?_,λi hi hn=>?_,?_⟩
 .have:=aET.1 h3 f O
  simpa using this
 .have:=aET.1 h4 i (mem_range.2 hi)
  rw[or_eq_true]at this;rcases this with h|h
  .exact absurd (by simpa using h) hn
  .obtain⟨j,hj,E⟩:=any_eq_true.1 h
   simp only[bAE,decide_eq_true_eq,not_eq_true']at E;have:=mem_range.1 hj;exact⟨j,E.1.1,by omega,by simpa using E.1.2,E.2⟩
 .split at h5
  case h_2=>cases h5
  rename_i on J;rw[bAE,bAE]at h5;obtain⟨⟨g1,g2⟩,h5⟩:=h5;split at h5
  case h_2=>cases h5
  rename_i dn U;refine⟨on,dn,J,by simpa using g1,U,(λcs b e=>by rw[e]at g2;cases g2),λf O=>?_⟩
  have:=aET.1 h5 f O;split at this
  case h_2=>cases this
  rename_i o Z;rw[bAE,bAE]at this;obtain⟨⟨k1,k2⟩,this⟩:=this;split at this
  case h_2=>cases this
  rename_i d hd;simp only[bAE,not_eq_true',bne_iff_ne,ne_eq]at this;obtain⟨⟨Y,W⟩,m3⟩:=this;exact⟨o,d,Z,by simpa using k1,k2,hd,by simpa using Y,W,by simpa using m3⟩
def IT(P:Program)(h:Cy)(ops:Array Oper)(σ:List V)(o:Oper)(t:Nat->V)(r:V)(ys:List (Nat×Tk)):Prop:=
 (alM h ops o=false/\((∃d:Nat,o.dst=some d/\
  (((d<h.n/\((o.guard=none\/∃j E,o.guard=some (j,E)/\gv t ops j=.c (.bool E))/\∃r',qop P σ (Ms.ev ⟨t,σ⟩) o.op (λx=>x=r')/\r=(if h.fz.contains d then frz r' else r'))\/
   (∃j E,o.guard=some (j,E)/\gskip (gv t ops j) E/\d<h.n/\r=udV))/\ys=[])\/
   (d<h.n/\o.guard=none/\h.fz.contains d=false/\(∀p∈ys,Jc ops o p=true)/\mq t o ys r)))\/
 (o.guard=none/\(∀p∈ys,Jc ops o p=true\/Q2 h ops o p=true)/\UA o.op=true/\LQ P h.n σ (AlP h ops o) o t ys r)\/
 (∃j E,o.guard=some (j,E)/\gskip (gv t ops j) E/\o.dst=none/\ys=[])))\/
 (alM h ops o=true/\∃d,o.dst=some d/\d<h.n/\r=.dead/\ys=[])
theorem Dk{g:Nat×Bool}(E:o.guard=some g):alM h ops o=false:=by
 unfold alM;grind
theorem ML(J:alM h ops o=true):o.guard=none/\∃y z,o.op=.move (.tmp y)/\o.dst=some z/\∀j,AH ops j≠some y:=by
 unfold alM at J;rw[bAE]at J;refine⟨by simp_all,?_⟩
 have O:=J.2;split at O
 .rename_i y z E hd
  simp at O;exact⟨y,z,E,hd,CK O.1.2⟩
 grind
def Ci(ops:Array Oper)(r:Nat->V)(m:Nat->List (Nat×Tk))(t:Nat->V):Nat->(Nat->V)
 |0=>t
 |i+1=>Iy (AH ops i) (r i) (AP (m i) (Ci ops r m t i))
theorem Yc{P:Program}{h:Cy}{σ:List V}{t0:Nat->V}{K:(Nat->V)->Prop}(hn:n<=ops.size)(hq:QOK ops n):∀(k i:Nat) (r:Nat->V) (m:Nat->List (Nat×Tk)),i+k=n->
  vq P h ops σ ((ops.toList.drop i).take k) K (Ci ops r m t0 i)->(∀j,j<i->∀o,ops[j]? =some o->IT P h ops σ o (Ci ops r m t0 j) (r j) (m j))->
  ∃(r':Nat->V) (Z:Nat->List (Nat×Tk)),(∀j,j<n->∀o,ops[j]? =some o->IT P h ops σ o (Ci ops r' Z t0 j) (r' j) (Z j))/\K (Ci ops r' Z t0 n):=by
 intro k
 induction k with
 |zero=>
  intro i r m hi O hs;obtain rfl:i=n:=by omega
  simp[vq]at O;exact⟨r,m,hs,O⟩
 |succ k ih=>
  intro i r m hi O hs;have Y:i<ops.toList.length:=by simp;omega
  rw[List.drop_eq_getElem_cons Y,List.take_succ_cons]at O;obtain⟨oi,hoi,hnl⟩:=hq.dst i (by omega)
  have hdo:AH ops i=oi.dst:=by simp[AH,hoi]
  have he:ops.toList[i]=oi:=by
   have:=hoi;rw[<-Array.getElem?_toList,gEE Y]at this;exact Option.some.inj this
  rw[he]at O
  -- go on with the value v at place i
  have go:∀v ys,IT P h ops σ oi (Ci ops r m t0 i) v ys->vq P h ops σ ((ops.toList.drop (i+1)).take k) K (Iy oi.dst v (AP ys (Ci ops r m t0 i)))->∃(r':Nat->V) (Z:Nat->List (Nat×Tk)),(∀j,j<n->∀o,ops[j]? =some o->IT P h ops σ o (Ci ops r' Z t0 j) (r' j) (Z j))/\K (Ci ops r' Z t0 n):=by
   intro v ys hst O
   have same:∀j,j<=i->Ci ops (λx=>if x=i then v else r x) (λx=>if x=i then ys else m x) t0 j=Ci ops r m t0 j:=by
    intro j
    induction j with
    |zero=>intro _;rfl
    |succ j ihj=>
     intro hj;have h1:j≠i:=by omega
     simp only[Ci,ihj (by omega),h1,if_false]
   refine ih (i+1) (λx=>if x=i then v else r x) (λx=>if x=i then ys else m x) (by omega) ?_ ?_
   .have:Ci ops (λx=>if x=i then v else r x) (λx=>if x=i then ys else m x) t0 (i+1)=Iy oi.dst v (AP ys (Ci ops r m t0 i)):=by
     simp only[Ci,hdo,same i (le_refl _),if_true]
    rw[this];exact O
   .intro j hj o ho
    by_cases hji:j=i
    .subst hji
     have:o=oi:=Option.some.inj (ho.symm.trans hoi);subst this;rw[same j (le_refl _)];simpa using hst
    .rw[same j (by omega)]
     simp only[hji,if_false];exact hs j (by omega) o ho
  have go0:∀v d,oi.dst=some d->IT P h ops σ oi (Ci ops r m t0 i) v []->vq P h ops σ ((ops.toList.drop (i+1)).take k) K (AI (Ci ops r m t0 i) d v)->∃(r':Nat->V) (Z:Nat->List (Nat×Tk)),(∀j,j<n->∀o,ops[j]? =some o->IT P h ops σ o (Ci ops r' Z t0 j) (r' j) (Z j))/\K (Ci ops r' Z t0 n):=
   λv d hd h1 h2=>go v [] h1 (by rw[DM,hd];exact h2)
  unfold vq at O;split at O
  .rename_i W
   have dsome:∀(K:(Nat->V)->Prop) r',QK h oi.dst (Ci ops r m t0 i) K r'->∃d,oi.dst=some d:=by
    intro K r' J;unfold QK at J;split at J
    .exact⟨_,by assumption⟩
    .exact J.elim
   rcases O with⟨hna,O|⟨ys,d,v,hd,U,hfz,hmv,hmq,O⟩|⟨ys,v,hmv,hne,hlq,O⟩⟩|⟨hal,d,hd,U,O⟩
   .obtain⟨r',J,hdet⟩:=Wl O
    obtain⟨d,hd⟩:=dsome _ _ J;rw[hd]at J;obtain⟨U,J⟩:=J;exact go0 _ d hd (.inl ⟨hna,.inl ⟨d,hd,.inl ⟨.inl ⟨U,.inl W,r',hdet,rfl⟩,rfl⟩⟩⟩) J
   .exact go v ys (.inl ⟨hna,.inl ⟨d,hd,.inr ⟨U,W,hfz,hmv,hmq⟩⟩⟩) (by rw[hd];exact O)
   .exact go v ys (.inl ⟨hna,.inr (.inl ⟨W,hmv,hne,hlq⟩)⟩) O
   .exact go0 .dead d hd (.inr ⟨hal,d,hd,U,rfl,rfl⟩) O
  .rename_i j E W
   split at O
   .rename_i b hb
    by_cases hbw:b=E
    .obtain⟨r',J,hdet⟩:=Wl (O.1 hbw)
     unfold QK at J;split at J
     case h_2=>exact J.elim
     rename_i d hd;obtain⟨U,J⟩:=J;exact go0 _ d hd (.inl ⟨Dk W,.inl ⟨d,hd,.inl ⟨.inl ⟨U,.inr ⟨j,E,W,by rw[hb,hbw]⟩,r',hdet,rfl⟩,rfl⟩⟩⟩) J
    .have hbn:b=(!E):=by cases b<;>cases E<;>simp_all
     obtain⟨Y,J⟩:=O.2 hbn;cases hd:oi.dst with
     |none=>
      rw[hd]at J;exact go .dead [] (.inl ⟨Dk W,.inr (.inr ⟨j,E,W,.inl (by rw[hb,hbn]),hd,rfl⟩)⟩) (by rw[hd];exact J)
     |some d=>
      rw[hd]at J;exact go0 udV d hd (.inl ⟨Dk W,.inl ⟨d,hd,.inl ⟨.inr ⟨j,E,W,.inl (by rw[hb,hbn]),Y d hd,rfl⟩,rfl⟩⟩⟩) J
   .obtain⟨hu,Y,J⟩:=O
    cases hd:oi.dst with
    |none=>
     rw[hd]at J;exact go .dead [] (.inl ⟨Dk W,.inr (.inr ⟨j,E,W,.inr hu,hd,rfl⟩)⟩) (by rw[hd];exact J)
    |some d=>
     rw[hd]at J;exact go0 udV d hd (.inl ⟨Dk W,.inl ⟨d,hd,.inl ⟨.inr ⟨j,E,W,.inr hu,Y d hd,rfl⟩,rfl⟩⟩⟩) J
structure MOK1(A:Nat->Prop)(ops:Array Oper)(n i:Nat)(p:Nat×Tk)(oi:Oper):Prop where
 at_:ops[i]? =some oi
 na:¬A i
 looks:p.1∈oi.looksAt ops
 one:p.2.isPart=false->∀j oj,ops[j]? =some oj->p.1∈oj.looksAt ops->j=i\/WS ops i j\/WS ops j i
 nx:p.2.isPart=false->∀y c,oi.op≠.extract y c
 part:∀c,p.2=.part c->∀j oj,j<n->ops[j]? =some oj->p.1∈oj.looksAt ops->oj.guard=none/\∃c',oj.op=.extract (.tmp p.1) c'/\(j≠i->c'≠c)
 edge:(∃e∈oi.after,Region.binds .any e=true/\AH ops e.on=some p.1)\/(p.2.isPart=false/\∀j,AH ops j≠some p.1)
structure MOKA(A:Nat->Prop)(B:Nat->Nat->Prop)(ops:Array Oper)(n i:Nat)(p:Nat×Tk)(oi:Oper):Prop where
 at_:ops[i]? =some oi
 put:p.2.isPart=false
 nd:∀j,AH ops j≠some p.1
 us:B i p.1
 one:∀j,B j p.1->j=i\/WS ops i j\/WS ops j i
 look:∀j oj,ops[j]? =some oj->p.1∈oj.looksAt ops->A j
def MOK(A:Nat->Prop)(B:Nat->Nat->Prop)(ops:Array Oper)(n:Nat)(m:Nat->List (Nat×Tk)):Prop:=∀i,i<n->∀p∈m i,∃oi,MOK1 A ops n i p oi\/MOKA A B ops n i p oi
def isA(h:Cy)(ops:Array Oper)(i:Nat):Prop:=∃o,ops[i]? =some o/\alM h ops o=true
def isB(h:Cy)(ops:Array Oper)(i x:Nat):Prop:=i∈alU h ops x
theorem le_one{α:Type}{l:List α}(h:l.length<=1){a b:α}(J:a∈l)(E:b∈l):a=b:=by
 match l,h with
 |[c],_=>grind
theorem Hf{ops:Array Oper}{oi:Oper}{y:Nat}(J:(oi.after.toList.any λe=>Region.binds .any e&&(match AH ops e.on with
 |some d=>beq d y
 |none=>false))=true):∃e∈oi.after,Region.binds .any e=true/\AH ops e.on=some y:=by
 obtain⟨e,O,E⟩:=any_eq_true.1 J;rw[bAE]at E;refine⟨e,by grind,E.1,?_⟩
 have:=E.2;split at this
 .simp_all
 grind
theorem ZY{P:Program}{h:Cy}{σ:List V}{t0 r:Nat->V}{m:Nat->List (Nat×Tk)}(hq:QOK ops n)
  (hst:∀j,j<n->∀o,ops[j]? =some o->IT P h ops σ o (Ci ops r m t0 j) (r j) (m j)):MOK (isA h ops) (isB h ops) ops n m:=by
 intro i hi p Y;obtain⟨oi,O,_⟩:=hq.dst i hi;have hdo:AH ops i=oi.dst:=by simp[AH,O]
 have E:¬isA h ops i/\(Jc ops oi p=true\/Q2 h ops oi p=true)/\(p.2.isPart=false->∀y c,oi.op≠.extract y c):=by
  rcases hst i hi oi O with⟨hna,hs⟩|⟨_,_,_,_,_,he⟩
  rotate_left
  .rw[he]at Y;cases Y
  refine⟨fun⟨o',ho',hal⟩=>?_,?_⟩
  .obtain rfl:o'=oi:=Option.some.inj (ho'.symm.trans O)
   rw[hna]at hal;cases hal
  rcases hs with⟨_,_,⟨_,he⟩|⟨_,_,_,E,hmq⟩⟩|⟨_,E,hne,_⟩|⟨_,_,_,_,_,he⟩
  .rw[he]at Y;cases Y
  .refine⟨.inl (E p Y),λhpt y c hop=>?_⟩
   rcases hmq with⟨z,hz,_⟩|⟨z,c',n',f,_,hys,_⟩
   .rcases hz with hz|hz<;>(rw[hop]at hz;cases hz)
   .rw[hys,mem_singleton]at Y
    rw[Y]at hpt;cases hpt
  .exact⟨E p Y,λ_ y c hop=>by rw[hop]at hne;cases hne⟩
  .rw[he]at Y;cases Y
 obtain⟨hna,E,hnx⟩:=E;rcases E with E|E
 rotate_left
 .unfold Q2 at E
  simp only[bAE,not_eq_true']at E;obtain⟨⟨⟨⟨Z,h2⟩,h3⟩,h4⟩,h5⟩:=E;have hin:∀j oj,ops[j]? =some oj->alB h ops oj p.1=true->j∈alU h ops p.1:=by
   intro j oj J hb;unfold alU;rw[mem_filter,mem_range];refine⟨(Array.getElem?_eq_some_iff.1 J).1,?_⟩;rw[J];exact hb
  refine⟨oi,.inr ⟨O,Z,CK h3,hin i oi O h2,λj hj=>?_,λj oj J hl=>?_⟩⟩
  .have Y:=JZ hq.back h4 λk hk=>by
    have hk:=mem_range.1 (mem_filter.1 hk).1;exact⟨ops[k],by simp[hk]⟩
   obtain⟨a,ha,ea⟩:=getElem_of_mem (hin i oi O h2);obtain⟨b,hb',eb⟩:=getElem_of_mem (show j∈alU h ops p.1 from hj)
   rcases Nat.lt_trichotomy a b with hlt|heq|hlt
   .have:=List.pairwise_iff_getElem.1 Y a b ha hb' hlt
    rw[ea,eb]at this;exact .inr (.inr this)
   .subst heq
    exact .inl (eb.symm.trans ea)
   .have:=List.pairwise_iff_getElem.1 Y b a hb' ha hlt
    rw[ea,eb]at this;exact .inr (.inl this)
  .have:=aET.1 h5 j (mem_range.2 (Array.getElem?_eq_some_iff.1 J).1)
   rw[J]at this;simp only[or_eq_true,not_eq_true']at this;rcases this with h6|h6
   .have:(oj.looksAt ops).contains p.1=true:=by simpa using hl
    rw[h6]at this;cases this
   .exact⟨oj,J,h6⟩
 obtain⟨y,tk⟩:=p
 have wholeC:mvC ops oi y=true->tk.isPart=false->∃oi,MOK1 (isA h ops) ops n i (y,tk) oi\/MOKA (isA h ops) (isB h ops) ops n i (y,tk) oi:=by
  intro E W;unfold mvC at E;rw[bAE,bAE]at E;have Z:y∈oi.looksAt ops:=by simpa using E.1.1
  exact⟨oi,.inl ⟨O,hna,Z,λ_ j oj J U=>U1 hq.back E.2 O Z J U,hnx,(λc hc=>by have hc:tk=.part c:=hc;rw[hc]at W;cases W),.inr ⟨W,CK E.1.2⟩⟩⟩
 have whole:mvB ops oi y=true\/mvR ops oi y=true->tk.isPart=false->∃oi,MOK1 (isA h ops) ops n i (y,tk) oi\/MOKA (isA h ops) (isB h ops) ops n i (y,tk) oi:=by
  intro E W
  obtain⟨Z,h2,h3⟩:(oi.looksAt ops).contains y=true/\YO ops y=true/\((∃e∈oi.after,Region.binds .any e=true/\AH ops e.on=some y)\/(tk.isPart=false/\∀j,AH ops j≠some y)):=by
   rcases E with E|E
   .unfold mvB at E
    rw[bAE,bAE]at E;exact⟨E.1.1,E.1.2,.inl (Hf E.2)⟩
   .unfold mvR at E
    rw[bAE,bAE]at E;exact⟨E.1.1,E.1.2,.inr ⟨W,CK E.2⟩⟩
  have Z:y∈oi.looksAt ops:=by simpa using Z
  refine⟨oi,.inl ⟨O,hna,Z,λ_ j oj J U=>.inl ?_,hnx,(λc hc=>by have hc:tk=.part c:=hc;rw[hc]at W;cases W),h3⟩⟩
  unfold YO at h2;have h2:=of_decide_eq_true h2
  have hin:∀k ok,ops[k]? =some ok->y∈ok.looksAt ops->k∈(range ops.size).filter λj=>match ops[j]? with
    |some o=>(o.looksAt ops).contains y
    |none=>false:=by
   intro k ok hk hyk;rw[mem_filter,mem_range];refine⟨(Array.getElem?_eq_some_iff.1 hk).1,?_⟩;rw[hk];simpa using hyk
  exact le_one h2 (hin j oj J U) (hin i oi O Z)
 unfold Jc at E;cases tk with
 |all=>exact whole (.inl E) rfl
 |put v=>
  have E:(mvB ops oi y||mvR ops oi y||mvC ops oi y)=true:=E;rw[or_eq_true,or_eq_true]at E;exact E.elim (λh=>whole h rfl) λh=>wholeC h rfl
 |part c=>
  have E:exB ops oi y c=true:=E;unfold exB at E;rw[bAE,bAE]at E;obtain⟨⟨Z,h2⟩,h3⟩:=E;have Z:y∈oi.looksAt ops:=by simpa using Z
  refine⟨oi,.inl ⟨O,hna,Z,(λhc=>by cases hc),(λhc=>by cases hc),λc0 hc j oj hj J U=>?_,.inl (Hf h3)⟩⟩
  cases hc;have hown:=aET.1 h2 i (mem_range.2 (Array.getElem?_eq_some_iff.1 O).1);have:=aET.1 h2 j (mem_range.2 (Array.getElem?_eq_some_iff.1 J).1);rw[J]at this;simp only[or_eq_true,not_eq_true',bAE]at this;rcases this with h4|⟨h4,h5⟩
  .have U:y∈oj.looksAt ops:=U
   have:(oj.looksAt ops).contains y=true:=by simpa using U
   rw[h4]at this;cases this
  .refine⟨by simpa using h4,?_⟩
   split at h5
   case h_2=>cases h5
   rename_i y' c' hop;simp only[bAE,or_eq_true,not_eq_true',beq_iff_eq]at h5;obtain⟨h6,h7⟩:=h5;have h6:=bqE h6;subst h6;refine⟨c',hop,λhji hcc=>?_⟩
   rcases h7 with h7|h7
   .rw[hcc,Nat.beq_refl]at h7;cases h7
   .cases hdi:oi.dst with
    |some d=>exact(hq.ne i j d oj hi hj (Ne.symm hji) (hdo.trans hdi) J).1 (h7.trans hdi)
    |none=>
     rcases hst i hi oi O with⟨_,⟨d,hd,_⟩|⟨_,_,hne,_⟩|⟨_,_,_,_,_,he⟩⟩|⟨_,d,hd,_⟩
     .rw[hdi]at hd;cases hd
     rotate_left
     .rw[he]at Y;cases Y
     .rw[hdi]at hd;cases hd
     .rw[O]at hown
      simp only[or_eq_true,not_eq_true',bAE]at hown;rcases hown with h8|⟨_,h8⟩
      .have:(oi.looksAt ops).contains y'=true:=by simpa using Z
       rw[h8]at this;cases this
      .split at h8
       .rename_i hop';rw[hop']at hne;cases hne
       .cases h8
def apS(S:Nat->Bool)(m:Nat->List (Nat×Tk))(x:Nat)(v:V):Nat->V
 |0=>v
 |n+1=>if S n=true then H1 (Bo (m n) x) (apS S m x v n)else apS S m x v n
def HZ{S:Nat->Bool}{m:Nat->List (Nat×Tk)}{x:Nat}{v:V}:∀n,(∀i,i<n->S i=true->Bo (m i) x=none)->apS S m x v n=v
 |0,_=>rfl
 |n+1,h=>by
  unfold apS;rw[HZ n λi J=>h i (by omega)]
  split
  .rename_i E;rw[h n (by simp) E];rfl
  rfl
def Cx{S S':Nat->Bool}{m:Nat->List (Nat×Tk)}{x:Nat}{v:V}:∀n,(∀i,i<n->S i=S' i)->apS S m x v n=apS S' m x v n
 |0,_=>rfl
 |n+1,h=>by
  unfold apS;rw[Cx n λi E=>h i (by omega),h n (by simp)]
def J7{S S':Nat->Bool}{m:Nat->List (Nat×Tk)}{x j:Nat}{v:V}(U:S j=false)(O:S' j=true)(E:∀i,i≠j->S' i=S i):∀n,(∀i,i<n->j<i->S i=true->∀u,H1 (Bo (m i) x) (H1 (Bo (m j) x) u)=H1 (Bo (m j) x) (H1 (Bo (m i) x) u))->j<n->apS S' m x v n=H1 (Bo (m j) x) (apS S m x v n)
 |0,_,h=>by omega
 |n+1,hc,h=>by
  unfold apS;by_cases J:j=n
  .subst J
   rw[if_pos O,U,Cx (S':=S) j λi W=>E i (by omega)]
   simp
  .rw[J7 U O E n (λi W=>hc i (by omega)) (by omega),E n (Ne.symm J)]
   grind
def EqC(c:Nat)(v v':V):Prop:=v=v'\/∃E n f g,v=.many E n f/\v'=.many E n g/\f c=g c
theorem EqC.symm{c:Nat}{v v':V}(h:EqC c v v'):EqC c v' v:=by
 rcases h with rfl|⟨E,n,f,g,U,O,J⟩
 .exact .inl rfl
 .exact .inr ⟨E,n,g,f,O,U,J.symm⟩
theorem EqC.trans{c:Nat}{v v' E:V}(h:EqC c v v')(h':EqC c v' E):EqC c v E:=by
 rcases h with rfl|⟨W,n,f,g,h1,Z,Y⟩
 .omega
 .rcases h' with rfl|⟨tg',n',f',g',J,U,O⟩
  .exact .inr ⟨W,n,f,g,h1,Z,Y⟩
  .rw[Z]at J
   cases J;exact .inr ⟨W,n,f,g',h1,U,Y.trans O⟩
theorem EqC.kill{c c':Nat}(h:c'≠c)(v:V):EqC c v (NZ c' v):=by
 cases v<;>try exact .inl rfl
 exact .inr ⟨_,_,_,_,rfl,rfl,by grind⟩
theorem XJ{S:Nat->Bool}{m:Nat->List (Nat×Tk)}{x c:Nat}{v:V}:∀n,(∀i,i<n->S i=true->∀E,Bo (m i) x=some E->∃c',E=.part c'/\c'≠c)->EqC c v (apS S m x v n)
 |0,_=>.inl rfl
 |n+1,h=>by
  have J:=XJ (v:=v) n λi Y=>h i (by omega)
  unfold apS;split
  .rename_i O
   cases U:Bo (m n) x with
   |none=>trivial
   |some E=>
    obtain⟨c',rfl,W⟩:=h n (by simp) O E U
    exact J.trans (EqC.kill W _)
  grind
def CJ(ops:Array Oper)(n x:Nat):Option Nat:=(range n).find? λi=>AH ops i==some x
theorem Bl(h:CJ ops n x=some i):i<n/\AH ops i=some x:=by
 unfold CJ at h
 grind
theorem KV(h:CJ ops n x=none):∀i,i<n->AH ops i≠some x:=by
 unfold CJ at h
 grind
theorem L3(U:QOK ops n)(J:i<n)(h:AH ops i=some x):CJ ops n x=some i:=by
 cases W:CJ ops n x with
 |none=>exact absurd h (KV W i J)
 |some j=>
  obtain⟨Y,O⟩:=Bl W;by_cases Z:j=i
  .grind
  .obtain⟨oi,E,_⟩:=U.dst i J
   have:=(U.ne j i x oi Y J Z O E).1;simp[AH,E]at h
   grind
def Dq(U:QOK ops n)(hm:MOK A B ops n m){Z:Tk}(hi:i<n)(h:Bo (m i) x=some Z):CJ ops n x=none\/∃k,CJ ops n x=some k/\k<i/\∃oi,ops[i]? =some oi/\∃e∈oi.after,Region.binds .any e=true/\e.on=k:=by
 obtain⟨oi,E⟩:=hm i hi _ (CL h);rcases E with E|E
 rotate_left
 .left
  cases hw:CJ ops n x with
  |none=>rfl
  |some k=>exact absurd (Bl hw).2 (E.nd k)
 rcases E.edge with⟨e,W,Y,hd⟩|⟨_,J⟩
 rotate_left
 .left
  cases E:CJ ops n x with
  |none=>rfl
  |some k=>exact absurd (Bl E).2 (J k)
 right;have O:=U.back i oi e E.at_ W Y;exact⟨e.on,L3 U (by omega) hd,O,oi,E.at_,e,W,Y,rfl⟩
theorem Qo(O:MOK A B ops n m)(Z:i<n)(W:j<n)(Y:i≠j)(h1:¬WS ops i j)(U:¬WS ops j i)(u:V):H1 (Bo (m i) x) (H1 (Bo (m j) x) u)=H1 (Bo (m j) x) (H1 (Bo (m i) x) u):=by
 refine W4 _ _ _ λa b ha hb=>?_
 obtain⟨oi,J⟩:=O i Z _ (CL ha);obtain⟨oj,E⟩:=O j W _ (CL hb);rcases J with J|J
 rotate_left
 .rcases E with E|E
  .exact absurd (J.look j oj E.at_ E.looks) E.na
  .rcases J.one j E.us with h3|h3|h3<;>first|omega|exact absurd h3 h1|exact absurd h3 U
 rcases E with E|E
 rotate_left
 .exact absurd (E.look i oi J.at_ J.looks) J.na
 refine⟨?_,?_⟩
 .cases h:a.isPart with
  |true=>rfl
  |false=>rcases J.one h j oj E.at_ E.looks with h3|h3|h3<;>first|grind|rfl|rfl
 .cases h:b.isPart with
  |true=>rfl
  |false=>rcases E.one h i oi J.at_ J.looks with h3|h3|h3<;>first|grind|rfl|exact absurd h3 U
def pt(ops:Array Oper)(n:Nat)(r:Nat->V)(m:Nat->List (Nat×Tk))(t0:Nat->V)(listed:Array Bool)(x:Nat):V:=
 match CJ ops n x with
 |some k=>if listed.getD k false then apS (λi=>listed.getD i false) m x (r k) n else .dead
 |none=>apS (λi=>listed.getD i false) m x (t0 x) n
theorem Hx(Z:QOK ops n)(hm:MOK A B ops n m)(r t0:Nat->V)(x:Nat):∀j,j<=n->Ci ops r m t0 j x=match CJ ops n x with
  |some k=>if k<j then apS (λi=>decide (i<j)) m x (r k) n else t0 x
  |none=>apS (λi=>decide (i<j)) m x (t0 x) n:=by
 intro j
 induction j with
 |zero=>
  intro _;cases CJ ops n x with
  |none=>exact(HZ n λi _ J=>by simp at J).symm
  |some k=>simp[Ci]
 |succ j ih=>
  intro hj;obtain⟨oj,hoj,_⟩:=Z.dst j (by omega)
  have hdo:AH ops j=oj.dst:=by simp[AH,hoj]
  have other:AH ops j≠some x->Ci ops r m t0 (j+1) x=match CJ ops n x with
    |some k=>if k<j+1 then apS (λi=>decide (i<j+1)) m x (r k) n else t0 x
    |none=>apS (λi=>decide (i<j+1)) m x (t0 x) n:=by
   intro U
   have e:Ci ops r m t0 (j+1) x=AP (m j) (Ci ops r m t0 j) x:=by
    show Iy (AH ops j) (r j) (AP (m j) (Ci ops r m t0 j)) x=_;cases hd:AH ops j with
    |none=>rfl
    |some d=>
     show AI _ d _ x=_;unfold AI;rw[if_neg]
     rintro rfl
     exact U hd
   rw[e];unfold AP;rw[ih (by omega)]
   cases O:CJ ops n x with
   |none=>
    exact(J7 (by simp) (by simp) (λi hi=>by
      simp only[decide_eq_decide];omega) n (λi _ hij J=>absurd (of_decide_eq_true J) (by omega)) (by omega)).symm
   |some k=>
    have hkj:k≠j:=by
     rintro rfl
     exact U (Bl O).2
    simp only;by_cases W:k<j
    .rw[if_pos W,if_pos (by omega)]
     exact(J7 (by simp) (by simp) (λi hi=>by
      simp only[decide_eq_decide];omega) n (λi _ hij J=>absurd (of_decide_eq_true J) (by omega)) (by omega)).symm
    .rw[if_neg W,if_neg (by omega)]
     cases hl:Bo (m j) x with
     |none=>rfl
     |some tk=>
      rcases Dq Z hm (by omega:j<n) hl with E|⟨k',E,hkj',_⟩
      .rw[O]at E;cases E
      .rw[O]at E;cases E;omega
  by_cases U:AH ops j=some x
  .have O:=L3 Z (by omega:j<n) U
   have e:Ci ops r m t0 (j+1) x=r j:=by
    show Iy (AH ops j) (r j) (AP (m j) (Ci ops r m t0 j)) x=_;rw[U];show AI _ x _ x=_;unfold AI;rw[if_pos rfl]
   rw[e,O];simp only[Nat.lt_succ_self,if_true];refine(HZ n λi hi J=>?_).symm
   cases hl:Bo (m i) x with
   |none=>rfl
   |some tk=>
    rcases Dq Z hm hi hl with Y|⟨k,Y,hki,_⟩
    .rw[O]at Y;cases Y
    rw[O]at Y;cases Y;have:=of_decide_eq_true J;omega
  .exact other U
theorem PR.ev{C:Ctx}{N:Nat}{σ:List V}{ρ:Nat->Value}{F:Nat->Nat->Prop}{t:Nat->V}{a:Act}{w:World}{D:Nat->Prop}{T:Nat->Nat->Prop}(h:PR C N σ ρ F t a w D T)(x:Operand):OpR σ w D ρ F (Ms.ev ⟨t,σ⟩ x) (a.eval x):=by
 have plain:∀v cv,Rel D w (Aq σ ρ w) v cv noF->OpR σ w D ρ F v cv:=λv cv J=>⟨noF,J,λ_ h=>h.elim,λ_ _ _ h=>h⟩
 cases x with
 |tmp y=>
  by_cases E:y<N
  .exact⟨T y,h.tm y E,h.tD y,λi b O=>h.tF i y b O⟩
  .refine plain _ _ ?_
   show Rel D w _ (t y) _ noF;rw[h.dd y (le_of_not_lt E)];exact λ_ h=>h
 |const v=>exact plain _ _ (Ir v)
 |global g=>exact plain _ _ ⟨rfl,rfl,λ_ h=>h⟩
 |func f=>exact plain _ _ Pq
theorem PR.gvN(h:PR C N σ ρ F t a w D T)(E:Go.Ve.gv t ops j=udV):yielded ops a.tmps j=none:=by
 unfold Go.Ve.gv at E;split at E
 .rename_i d hd
  have J:d<N:=by
   rcases lt_or_ge d N with h'|h'
   .grind
   .rw[h.dd d h']at E;cases E
  have U:=h.tm d J;rw[E]at U;obtain⟨cs,_,O,_⟩:=U;have W:d<a.tmps.size:=by rw[h.sz];omega
  have Y:a.tmps[d]? =some (.tuple cs):=by
   simp[W]at O⊢
   trivial
  unfold yielded
  grind
 trivial
theorem PR.gv{C:Ctx}{N:Nat}{σ:List V}{ρ:Nat->Value}{F:Nat->Nat->Prop}{t:Nat->V}{a:Act}{w:World}{D:Nat->Prop}{T:Nat->Nat->Prop}(h:PR C N σ ρ F t a w D T){ops:Array Oper}{j:Nat}{b:Bool}(E:Go.Ve.gv t ops j=.c (.bool b)):yielded ops a.tmps j=some b:=by
 unfold Go.Ve.gv at E;split at E
 .rename_i d hd
  have J:d<N:=by
   rcases lt_or_ge d N with h'|h'
   .omega
   .rw[h.dd d h']at E;grind
  have O:=h.tm d J;rw[E]at O;have W:d<a.tmps.size:=by rw[h.sz];grind
  have U:a.tmps[d]? =some (.bool b):=by
   have:=O.1
   simp_all
  unfold yielded
  grind
 grind
theorem PR.put{C:Ctx}{N:Nat}{σ:List V}{ρ:Nat->Value}{F:Nat->Nat->Prop}{t:Nat->V}{a:Act}{w w':World}{D D':Nat->Prop}{T:Nat->Nat->Prop}(h:PR C N σ ρ F t a w D T){r:V}{v':Value}{fp:Nat->Prop}{d:Nat}(hB:Below w.heap.size w w')(hr:Rel D' w' (Aq σ ρ w') r v' fp)
  (hf:∀b,fp b->w.heap.size<=b) (hd1:∀b,D b->D' b) (hd2:∀b,D' b->D b\/w.heap.size<=b) (hd3:∀b,D' b->b<w'.heap.size/\¬fp b) (hdn:d<N):
  PR C N σ ρ F (AI t d r) (a.put (some d) v') w' D' (λx=>if x=d then fp else T x):=by
 have U:∀i b,F i b->b<w.heap.size:=h.wr.lt;have J:∀x b,T x b->b<w.heap.size:=by
  intro x b E;by_cases W:x<N
  .exact Rel.lt _ _ _ (h.tm x W) b E
  .exact absurd E (h.tx x b (le_of_not_lt W))
 have wr':Bu σ w' D' ρ F:=by
  have Y:=h.wr.below hB;refine⟨λi hi=>Rel.mono hd1 (λ_ _ h=>h) _ _ _ (λ_ _=>rfl) (Y.rel i hi),Y.disj,λi b E hD=>?_,λb E=>(hd3 b E).1,Y.out⟩
  rcases hd2 b hD with O|O
  .exact Y.dD i b E O
  .have:=U i b E;omega
 refine⟨h.df,by rw[BW];simpa using h.sz,λx W=>?_,wr',λx W=>?_,λx b E=>?_,λi x b E hT=>?_,λx y b hxy Y O=>?_,λx b E=>?_,h.fr.below hB,h.Fn,λb E=>hd1 b (h.D1 b E),λb E Z=>?_,h.rt,h.ml,λx b W E=>?_⟩
 .have:¬x=d:=by omega
  simp only[AI,this,if_false];exact h.dd x W
 .have Z:x<a.tmps.size:=by rw[h.sz];exact W
  rw[BW];by_cases he:x=d
  .subst he
   simp only[AI,if_true];simpa [Z]using hr
  .simp only[AI,he,if_false]
   rw[getD_eq_getD_getElem?,Array.getElem?_setIfInBounds_ne (Ne.symm he),<-getD_eq_getD_getElem?];refine Rel.mono hd1 (λv cv hv=>Aq.same h.wr (λi b E=>hB.block b (U i b E)) v cv hv) _ _ _ (λb E=>hB.block b ?_) (h.tm x W)
   exact E.elim (h.wr.Dlt b) (J x b)
 .split at E
  .exact λhD=>(hd3 b hD).2 E
  .intro hD
   rcases hd2 b hD with O|O
   .exact h.tD x b E O
   .have:=J x b E;omega
 .split at hT
  .have:=U i b E;have:=hf b hT;omega
  .exact h.tF i x b E hT
 .split at Y<;>split at O
  .omega
  .have:=hf b Y;have:=J y b O;omega
  .have:=hf b O;have:=J x b Y;omega
  .exact h.tT x y b hxy Y O
 .split at E
  .exact .inr (Nat.le_trans h.fr.size (hf b E))
  .exact h.tn x b E
 .rcases hd2 b E with O|O
  .exact h.D2 b O Z
  .have:=h.fr.size;omega
 .have:¬x=d:=by omega
  simp only[this,if_false]at E;exact h.tx x b W E
theorem PR.move{w':World}{D':Nat->Prop}(h:PR C N σ ρ F t a w D T){r:V}{v':Value}{d:Nat}{t1:Nat->V}{T1:Nat->Nat->Prop}(g1:∀x,x<N->Rel D w (Aq σ ρ w) (t1 x) (a.tmps.getD x undef) (T1 x))(g2:∀x b,T1 x b->T x b)(g3:∀x,N<=x->t1 x=.dead)(hB:Below w.heap.size w w')(hr:Rel D' w' (Aq σ ρ w') r v' fp)
  (hf:∀b,fp b->(∃y,T y b/\∀x,¬T1 x b)\/w.heap.size<=b) (hd1:∀b,D b->D' b) (hd2:∀b,D' b->D b\/w.heap.size<=b) (hd3:∀b,D' b->b<w'.heap.size/\¬fp b) (hdn:d<N):
  PR C N σ ρ F (AI t1 d r) (a.put (some d) v') w' D' (λx=>if x=d then fp else T1 x):=by
 have U:∀i b,F i b->b<w.heap.size:=h.wr.lt;have O:∀x b,T x b->b<w.heap.size:=by
  intro x b E;by_cases W:x<N
  .exact Rel.lt _ _ _ (h.tm x W) b E
  .exact absurd E (h.tx x b (le_of_not_lt W))
 have wr':Bu σ w' D' ρ F:=by
  have Y:=h.wr.below hB;refine⟨λi hi=>Rel.mono hd1 (λ_ _ h=>h) _ _ _ (λ_ _=>rfl) (Y.rel i hi),Y.disj,λi b E hD=>?_,λb E=>(hd3 b E).1,Y.out⟩
  rcases hd2 b hD with J|J
  .exact Y.dD i b E J
  .have:=U i b E;omega
 refine⟨h.df,by rw[BW];simpa using h.sz,λx W=>?_,wr',λx W=>?_,λx b E=>?_,λi x b E hT=>?_,λx y b hxy Y J=>?_,λx b E=>?_,h.fr.below hB,h.Fn,λb E=>hd1 b (h.D1 b E),λb E Z=>?_,h.rt,h.ml,λx b W E=>?_⟩
 .have:¬x=d:=by omega
  simp only[AI,this,if_false];exact g3 x W
 .have Z:x<a.tmps.size:=by rw[h.sz];exact W
  rw[BW];by_cases he:x=d
  .subst he
   simp only[AI,if_true];simpa [Z]using hr
  .simp only[AI,he,if_false]
   rw[getD_eq_getD_getElem?,Array.getElem?_setIfInBounds_ne (Ne.symm he),<-getD_eq_getD_getElem?];refine Rel.mono hd1 (λv cv hv=>Aq.same h.wr (λi b E=>hB.block b (U i b E)) v cv hv) _ _ _ (λb E=>hB.block b ?_) (g1 x W)
   exact E.elim (h.wr.Dlt b) λh'=>O x b (g2 x b h')
 .split at E
  .exact λhD=>(hd3 b hD).2 E
  .intro hD
   rcases hd2 b hD with J|J
   .exact h.tD x b (g2 x b E) J
   .have:=O x b (g2 x b E);omega
 .split at hT
  .rcases hf b hT with⟨y,hy,_⟩|J
   .exact h.tF i y b E hy
   .have:=U i b E;omega
  .exact h.tF i x b E (g2 x b hT)
 .have one:∀x,fp b->T1 x b->False:=by
   intro x h3 h4;rcases hf b h3 with⟨z,_,h5⟩|h5
   .exact h5 x h4
   .have:=O x b (g2 x b h4);omega
  split at Y<;>split at J
  .omega
  .exact one y Y J
  .exact one x J Y
  .exact h.tT x y b hxy (g2 x b Y) (g2 y b J)
 .split at E
  .rcases hf b E with⟨y,hy,_⟩|J
   .exact h.tn y b hy
   .exact .inr (Nat.le_trans h.fr.size J)
  .exact h.tn x b (g2 x b E)
 .rcases hd2 b E with J|J
  .exact h.D2 b J Z
  .have:=h.fr.size;omega
 .have:¬x=d:=by omega
  simp only[this,if_false]at E;exact h.tx x b W (g2 x b E)
end Go.Ve


namespace Go.Ve
variable{a:Act}{K K':Act->World->Prop}{listed:Array Bool}{Q Q0:Exit->Act->World->Prop}{N c d f i x y:Nat}{D:Nat->Prop}{o oi:Oper}{dst:Option Nat}{u v:Value}{w:World}
def Below.drew(w:World):Below w.heap.size w {w with drawn:=w.drawn+1}:=
 ⟨rfl,rfl,rfl,le_refl _,λ_ _=>rfl,Nat.le_succ _⟩
theorem BL(h:dst≠some x):(a.put dst u).tmps[x]? =a.tmps[x]?:=by
 cases dst with
 |none=>rfl
 |some e=>
  show(a.tmps.setIfInBounds e u)[x]? =_
  grind
section
def PB(ops:Array Oper)(n:Nat)(X:Nat->Prop)(x:Nat):Prop:=(∃i,i<n/\AH ops i=some x)\/X x
variable {X A:Nat->Prop}{B:Nat->Nat->Prop}{P:Program}{C:Ctx}{h:Cy}{ops:Array Oper}{σ:List V}{ρ:Nat->Value}{F:Nat->Nat->Prop}{t0 r:Nat->V}{m:Nat->List (Nat×Tk)}{n:Nat}
theorem pt_set(hq:QOK ops n)(hm:MOK A B ops n m)(U:HeadInv .any ops n listed)(hi:i<n)(hr:i∈Region.ready .any ops listed):
  pt ops n r m t0 (listed.setIfInBounds i true)=Iy (AH ops i) (r i) (AP (m i) (pt ops n r m t0 listed)):=by
 have hl:=U.size;have hii:i<listed.size:=by rw[hl];exact Nat.lt_of_lt_of_le hi hq.le
 obtain⟨E,o2,ho2,hall⟩:=mem_ready.1 hr;have E:=getD_both E;have eI:(listed.setIfInBounds i true).getD i false=true:=by simp[hii]
 funext x
 by_cases hx:AH ops i=some x
 .have e:Iy (AH ops i) (r i) (AP (m i) (pt ops n r m t0 listed)) x=r i:=by
   rw[hx];show AI _ x _ x=_;unfold AI;rw[if_pos rfl]
  rw[e];have Z:=L3 hq hi hx;unfold pt;rw[Z];simp only;rw[if_pos eI];refine HZ n λj W hs=>?_
  cases hc:Bo (m j) x with
  |none=>rfl
  |some tk=>
   rcases Dq hq hm W hc with hk|⟨k,hk,hkj,oj,hoj,e,he,hb,Y⟩
   .rw[Z]at hk;cases hk
   rw[Z]at hk;cases hk;rw[getD_set_ne false (by omega)]at hs
   have:=U.closed j oj hoj hs e he hb;rw[Y,E]at this;cases this
 .have e:Iy (AH ops i) (r i) (AP (m i) (pt ops n r m t0 listed)) x=AP (m i) (pt ops n r m t0 listed) x:=by
   cases hd:AH ops i with
   |none=>rfl
   |some d=>
    show AI _ d _ x=_;unfold AI;rw[if_neg]
    rintro rfl
    exact hx hd
  rw[e];unfold AP pt;cases Z:CJ ops n x with
  |none=>
   exact J7 (S:=λi=>listed.getD i false) E eI (λj W=>getD_set_ne false (Ne.symm W)) n (λj W hij hs u=>Qo hm W hi (by omega) (λh=>by have:=h.listed U.closed hs;rw[E]at this;cases this) (λh=>absurd h.1 (by omega)) u) hi
  |some k=>
   have hne:i≠k:=by
    rintro rfl
    exact hx (Bl Z).2
   simp only;rw[getD_set_ne false hne];by_cases J:listed.getD k false=true
   .rw[if_pos J,if_pos J]
    exact J7 (S:=λi=>listed.getD i false) E eI (λj W=>getD_set_ne false (Ne.symm W)) n (λj W hij hs u=>Qo hm W hi (by omega) (λh=>by have:=h.listed U.closed hs;rw[E]at this;cases this) (λh=>absurd h.1 (by omega)) u) hi
   .rw[if_neg J,if_neg J]
    cases hc:Bo (m i) x with
    |none=>rfl
    |some tk=>
     rcases Dq hq hm hi hc with O|⟨k',O,hki,oi,hoi,e,he,hb,Y⟩
     .rw[Z]at O;cases O
     rw[Z]at O;cases O;obtain rfl:oi=o2:=Option.some.inj (hoi.symm.trans ho2);have:=hall e he hb;rw[Y]at this;exact absurd this J
theorem DV{S S':Nat->Bool}{x:Nat}{v:V}:∀n,(∀i,i<n->Bo (m i) x≠none->S i=S' i)->apS S m x v n=apS S' m x v n
 |0,_=>rfl
 |n+1,h=>by
  unfold apS;rw[DV n λi O=>h i (by omega)]
  cases J:Bo (m n) x with
  |none=>
   have:∀b,(if b=true then H1 none (apS S' m x v n)else apS S' m x v n)=apS S' m x v n:=by
    intro b;cases b<;>rfl
   simp_all
  |some E=>grind
theorem XN(hq:QOK ops n)(hm:MOK A B ops n m)(inv:HeadInv .any ops n listed)(J:ops[i]? =some oi)(hi:i<n)(hr:i∈Region.ready .any ops listed)(hna:¬A i)(hx:x∈oi.looksAt ops):
  Ci ops r m t0 i x=pt ops n r m t0 listed x\/(oi.guard=none/\∃c,oi.op=.extract (.tmp x) c/\EqC c (Ci ops r m t0 i x) (pt ops n r m t0 listed x)):=by
 rw[Hx hq hm r t0 x i (Nat.le_of_lt hi)];unfold pt
 have hm1:∀j,j<n->∀U,Bo (m j) x=some U->∃oj,MOK1 A ops n j (x,U) oj:=by
  intro j hj U hl;obtain⟨oj,ok|ok⟩:=hm j hj _ (CL hl)
  .exact⟨oj,ok⟩
  .exact absurd (ok.look i oi J hx) hna
 have one:∀j,j<n->∀U,Bo (m j) x=some U->U.isPart=false->decide (j<i)=listed.getD j false:=by
  intro j hj U hl E;obtain⟨oj,ok⟩:=hm1 j hj _ hl;obtain⟨O,o2,ho2,hall⟩:=mem_ready.1 hr;have O:=getD_both O;rcases ok.one E i oi J hx with h|h|h
  .subst h
   rw[O];simp
  .have h1:=h.1
   have:listed.getD j false=false:=by
    cases hb:listed.getD j false with
    |false=>rfl
    |true=>have:=h.listed inv.closed hb;rw[O]at this;cases this
   rw[this];exact dF (by omega)
  .rw[h.2 listed inv.closed λZ hoi' e he hb=>by
    obtain rfl:Z=o2:=Option.some.inj (hoi'.symm.trans ho2);exact hall e he hb]
   exact dT h.1
 cases ho:CJ ops n x with
 |none=>
  left;refine DV n λj hj hl=>?_
  cases W:Bo (m j) x with
  |none=>exact absurd W hl
  |some U=>
   obtain⟨oj,ok⟩:=hm1 j hj _ W;rcases ok.edge with⟨e,he,hb,hd⟩|⟨E,_⟩
   .have hlt:=hq.back j oj e ok.at_ he hb
    exact absurd hd (KV ho e.on (by omega))
   .exact one j hj U W E
 |some k=>
  obtain⟨hk,hdk⟩:=Bl ho;obtain⟨Z,hoi',hnl⟩:=hq.dst i hi;obtain rfl:Z=oi:=Option.some.inj (hoi'.symm.trans J);have hne:k≠i:=by
   rintro rfl
   have:Z.dst=some x:=by simpa [AH,J]using hdk
   exact hnl x this hx
  obtain⟨e,he,hb,hon⟩:=(hq.ne k i x Z hk hi hne hdk J).2 hx;obtain⟨O,o2,ho2,hall⟩:=mem_ready.1 hr;obtain rfl:o2=Z:=Option.some.inj (ho2.symm.trans J);have h1:=hall e he hb;rw[hon]at h1;have h2:=hq.back i o2 e J he hb;rw[hon]at h2;simp only[h1,h2,if_true];have O:=getD_both O;by_cases hex:∃j c,j<n/\Bo (m j) x=some (.part c)
  .obtain⟨j,c,hj,hl⟩:=hex
   obtain⟨oj,ok⟩:=hm1 j hj _ hl;obtain⟨hg,c',hop,_⟩:=ok.part c rfl i o2 hi J hx;right;refine⟨hg,c',hop,?_⟩
   have side:∀S:Nat->Bool,S i=false->EqC c' (r k) (apS S m x (r k) n):=by
    intro S hSi;refine XJ n λj' hj' hs U hl'=>?_
    obtain⟨oj',ok'⟩:=hm1 j' hj' _ hl';cases E:U.isPart with
    |false=>
     obtain⟨_,c3,Y,_⟩:=ok.part c rfl j' oj' hj' ok'.at_ ok'.looks;exact absurd Y (ok'.nx E _ _)
    |true=>
     cases U<;>first|cases E|skip
     rename_i c2;obtain⟨_,c3,Y,hne3⟩:=ok'.part c2 rfl i o2 hi J hx;rw[hop]at Y;cases Y;refine⟨c2,rfl,λe=>?_⟩
     have hij:i≠j':=by
      rintro rfl
      rw[hSi]at hs;cases hs
     exact hne3 hij e.symm
   exact(side (λj=>decide (j<i)) (by simp)).symm.trans (side (λj=>listed.getD j false) O)
  .left
   refine DV n λj hj hl=>?_
   cases W:Bo (m j) x with
   |none=>exact absurd W hl
   |some U=>
    cases E:U.isPart with
    |true=>
     cases U<;>first|cases E|skip
     exact absurd ⟨j,_,hj,W⟩ hex
    |false=>exact one j hj U W E
theorem agreeA(hq:QOK ops n)(Z:MOK A B ops n m)(J:HeadInv .any ops n listed)(hi:i<n)(hr:i∈Region.ready .any ops listed){tk:Tk}(W:MOKA A B ops n i (x,tk) oi):
  Ci ops r m t0 i x=pt ops n r m t0 listed x:=by
 rw[Hx hq Z r t0 x i (Nat.le_of_lt hi)];unfold pt;have U:CJ ops n x=none:=by
  cases hw:CJ ops n x with
  |none=>rfl
  |some k=>exact absurd (Bl hw).2 (W.nd k)
 rw[U];refine DV n λj hj hl=>?_
 cases O:Bo (m j) x with
 |none=>exact absurd O hl
 |some tk'=>
  obtain⟨E,o2,ho2,hall⟩:=mem_ready.1 hr;have E:=getD_both E;have key:j=i\/WS ops i j\/WS ops j i:=by
   obtain⟨oj,ok|ok⟩:=Z j hj _ (CL O)
   .exact absurd (W.look j oj ok.at_ ok.looks) ok.na
   .exact W.one j ok.us
  rcases key with h|h|h
  .subst h
   rw[E];simp
  .rw[h.2 listed J.closed λoi' Y e he hb=>by
    grind]
   exact dT h.1
  .have h1:=h.1
   have:listed.getD j false=false:=by
    cases hb:listed.getD j false with
    |false=>rfl
    |true=>have:=h.listed J.closed hb;rw[E]at this;cases this
   grind
theorem MM(Y:QOK ops n)(hm:MOK A B ops n m)(E:HeadInv .any ops n listed)(J:ops[i]? =some oi)(hi:i<n)(W:i∈Region.ready .any ops listed)(O:¬A i)(U:x∈oi.looksAt ops)(Z:∀y c,oi.op≠.extract y c):
  Ci ops r m t0 i x=pt ops n r m t0 listed x:=by
 rcases XN Y hm E J hi W O U with h|⟨_,c,h,_⟩
 .omega
 grind
theorem Nz{v v':V}{K:V->Prop}(h:EqC c v v')(E:CC v c K):CC v' c K:=by
 rcases h with rfl|⟨J,n,f,g,rfl,rfl,O⟩
 .omega
 .unfold CC at E⊢
  grind
theorem PR.skip{T:Nat->Nat->Prop}{t:Nat->V}(O:PR C N σ ρ F t a w D T)(J:d<N):
  ∃T',PR C N σ ρ F (AI t d udV) (a.put (some d) undef) w D T'/\∀x b,T' x b->T x b:=
 ⟨_,O.put (Below.refl _ _) Rel.ud (λ_ h=>h.elim) (λ_ h=>h) (λ_ h=>.inl h) (λb E=>⟨O.wr.Dlt b E,λh=>h⟩) J,λx b E=>by split at E;exact E.elim;grind⟩
theorem HO{Q:Exit->Act->World->Prop}{K:Act->World->Prop}(hq:QOK ops n)(hm:MOK (isA h ops) (isB h ops) ops n m)(inv:HeadInv .any ops n listed)(hi:i<n)(hr:i∈Region.ready .any ops listed)
  (hst:∀j,j<n->∀o,ops[j]? =some o->IT P h ops σ o (Ci ops r m t0 j) (r j) (m j)) {D:Nat->Prop}{T:Nat->Nat->Prop}{a:Act}{w:World}
  (Y:PR C h.n σ ρ F (pt ops n r m t0 listed) a w D T) (hT:∀x b,T x b->PB ops n X x) (hal:∀oi,ops[i]? =some oi->∀z y,AlP h ops oi z y->a.tmps.getD z undef=a.tmps.getD y undef)
  (hK:∀a' w' D' T',PR C h.n σ ρ F (pt ops n r m t0 (listed.setIfInBounds i true)) a' w' D' T'->(∀x b,T' x b->PB ops n X x)->(∀x,AH ops i≠some x->a'.tmps[x]? =a.tmps[x]?)->K a' w'):wpOp P ops Q i K a w:=by
 obtain⟨oi,hoi,hnl⟩:=hq.dst i hi;have hdoi:AH ops i=oi.dst:=by simp[AH,hoi]
 rw[pt_set hq hm inv hi hr,hdoi]at hK
 have hgv:∀j Z,oi.guard=some (j,Z)->gv (pt ops n r m t0 listed) ops j=gv (Ci ops r m t0 i) ops j:=by
  intro j Z hg;unfold gv;split
  .rename_i x J
   rcases XN (r:=r) (t0:=t0) hq hm inv hoi hi hr (fun⟨o',ho',ha⟩=>by
    obtain rfl:o'=oi:=Option.some.inj (ho'.symm.trans hoi);rw[Dk hg]at ha;cases ha) (x:=x) (by unfold Oper.looksAt;rw[hg];simp[J])with h|⟨h,_⟩
   .exact h.symm
   .rw[hg]at h;cases h
  .rfl
 unfold wpOp;simp only[hoi];rcases hst i hi oi hoi with⟨hna,hs⟩|⟨ha,d,hd,hdn,hri,hmi⟩
 rotate_left
 .obtain⟨hg,y,z,O,hz,_⟩:=ML ha
  have hw:Region.wanted oi (yielded ops a.tmps)=true:=by simp[Region.wanted,hg]
  rw[if_pos hw];refine .inl ?_;have hrun:(execOp a.eval oi).run P w=.ok (.value (a.eval (.tmp y))) w:=by unfold execOp;rw[O];rfl
  unfold Oper.wp;rw[hrun];show K (a.put oi.dst (a.eval (.tmp y))) w;rw[hd]at hK⊢;rw[hmi,DM,hri]at hK;refine hK _ _ _ _ (Y.put (fp:=noF) (Below.refl _ _) (show Rel D w (Aq σ ρ w) .dead (a.eval (.tmp y)) noF from λ_ h=>h) (λ_ h=>h.elim) (λ_ h=>h) (λ_ h=>.inl h) (λb E=>⟨Y.wr.Dlt b E,λh=>h⟩) hdn) (λx b E=>?_) λx J=>BL J
  split at E
  .exact E.elim
  .exact hT x b E
 have hnA:¬isA h ops i:=fun⟨o',ho',ha⟩=>by
  obtain rfl:o'=oi:=Option.some.inj (ho'.symm.trans hoi);rw[hna]at ha;cases ha
 rcases hs with⟨d,hd,hs⟩|⟨hg,hmv,hne,hlq⟩|⟨j,Z,hg,hgj,hdn,hmi⟩
 rotate_left
 .have hw:Region.wanted oi (yielded ops a.tmps)=true:=by simp[Region.wanted,hg]
  rw[if_pos hw];refine .inl (hlq C ρ F a w D T (pt ops n r m t0 listed) (λx J=>?_) (hal oi hoi) Y K Q λa' w' D' T' hp' hT' htm=>hK a' w' D' T' hp' (λx b E=>?_) htm)
  .have hnx:∀y c,oi.op≠.extract y c:=λy c e=>by rw[e]at hne;cases hne
   rcases J with J|J
   rotate_left
   .cases hl:Bo (m i) x with
    |none=>exact absurd hl J
    |some tk=>
     obtain⟨oi',ok|ok⟩:=hm i hi _ (CL hl)
     .obtain rfl:oi'=oi:=Option.some.inj (ok.at_.symm.trans hoi)
      exact(MM hq hm inv hoi hi hr hnA ok.looks hnx).symm
     .exact(agreeA hq hm inv hi hr ok).symm
   refine(MM hq hm inv hoi hi hr hnA ?_ hnx).symm;unfold Ha at J;obtain⟨u,hu,he⟩:=mem_filterMap.1 J;cases u with
   |tmp y=>
    cases he;unfold Oper.looksAt;refine List.mem_append_left _ ?_;rw[mem_filterMap];exact⟨.tmp x,by simpa using hu,rfl⟩
   |const v=>cases he
   |global g=>cases he
   |func f=>cases he
  .rcases hT' x b E with h|⟨b',h⟩
   .exact .inl ⟨i,hi,hdoi.trans h⟩
   .exact hT x b' h
 .have W:=hgj
  rw[<-hgv j Z hg]at W
  have hw:Region.wanted oi (yielded ops a.tmps)=false:=by
   rcases W with W|W
   .have:=Y.gv W
    cases Z<;>simp[Region.wanted,hg,this]
   .simp[Region.wanted,hg,Y.gvN W]
  rw[if_neg (by simp[hw]),hdn]
  rw[hdn,hmi,DM]at hK;exact hK _ _ _ _ Y hT λ_ _=>rfl
 have hdo:AH ops i=some d:=hdoi.trans hd;have htm:∀(v:Value) x,some d≠some x->(a.put (some d) v).tmps[x]? =a.tmps[x]?:=λv x J=>BL J
 have hT':∀(fp:Nat->Prop) x b,(if x=d then fp else T x) b->PB ops n X x:=by
  intro fp x b E;split at E
  .rename_i J;subst J;exact .inl ⟨i,hi,hdo⟩
  .exact hT x b E
 rw[hd]at hK;rcases hs with⟨⟨hdn,hg,r',hqop,hri⟩|⟨j,Z,hg,hgj,hdn,hri⟩,hmi⟩|⟨hdn,hg,hfz,hmv,hmq⟩
 .rw[hmi,DM]at hK
  have hw:Region.wanted oi (yielded ops a.tmps)=true:=by
   rcases hg with hg|⟨j,Z,hg,hgj⟩
   .simp[Region.wanted,hg]
   .rw[<-hgv j Z hg]at hgj
    simp[Region.wanted,hg,Y.gv hgj]
  rw[if_pos hw];refine .inl ?_;have look:∀y,Operand.tmp y∈oi.op.operands->y∈oi.looksAt ops:=by
   intro y J;unfold Oper.looksAt;refine List.mem_append_left _ ?_;rw[mem_filterMap];exact⟨.tmp y,by simpa using J,rfl⟩
  have hqop':qop P σ (Ms.ev ⟨pt ops n r m t0 listed,σ⟩) oi.op (λx=>x=r'):=by
   by_cases hex:∃y c,oi.op=.extract (.tmp y) c
   .obtain⟨y,c,O⟩:=hex
    have hE:EqC c (Ci ops r m t0 i y) (pt ops n r m t0 listed y):=by
     rcases XN (r:=r) (t0:=t0) hq hm inv hoi hi hr hnA (x:=y) (look y (by rw[O];simp[Op.operands]))with h|⟨_,c',h,h'⟩
     .exact .inl h
     .rw[O]at h;cases h;exact h'
    rw[O]at hqop⊢;exact Nz (K:=λr0=>∃r,Sub r0 r/\r=r') hE hqop
   .refine Wm (λx J=>?_) hqop
    cases x with
    |tmp y=>
     show Ci ops r m t0 i y=pt ops n r m t0 listed y;rcases XN (r:=r) (t0:=t0) hq hm inv hoi hi hr hnA (look y J)with h|⟨_,c,h,_⟩
     .exact h
     .exact absurd ⟨y,c,h⟩ hex
    |const v=>rfl
    |global g=>rfl
    |func f=>rfl
  obtain⟨r2,rfl,hy⟩:=Ns (o:=oi) Y.ok Y.wr (λx _=>Y.ev x) hqop'
  refine hy K Q λv' w' D' fp hB hr' hf hd1 hd2 hd3=>?_
  rw[hd];rw[hri]at hK;split at hK
  .refine hK _ _ _ _ (Y.put (D':=λb=>D' b\/fp b) (fp:=noF) hB (Rel.frz _ _ _ hr') (λ_ h=>h.elim) (λb E=>.inl (hd1 b E)) (λb E=>?_) (λb E=>⟨?_,λh=>h⟩) hdn) (hT' _) (htm _)
   .rcases E with E|E
    .exact hd2 b E
    .exact .inr (hf b E)
   .rcases E with E|E
    .exact(hd3 b E).1
    .exact Rel.lt _ _ _ hr' b E
  .exact hK _ _ _ _ (Y.put hB hr' hf hd1 hd2 hd3 hdn) (hT' _) (htm _)
 .rw[hmi,DM]at hK
  have W:=hgj;rw[<-hgv j Z hg]at W
  have hw:Region.wanted oi (yielded ops a.tmps)=false:=by
   rcases W with W|W
   .have:=Y.gv W
    cases Z<;>simp[Region.wanted,hg,this]
   .simp[Region.wanted,hg,Y.gvN W]
  rw[if_neg (by simp[hw]),hd]
  rw[hri]at hK;obtain⟨T',hp',hsub⟩:=Y.skip hdn;exact hK _ _ _ _ hp' (λx b E=>hT x b (hsub x b E)) (htm _)
 .have hw:Region.wanted oi (yielded ops a.tmps)=true:=by simp[Region.wanted,hg]
  rw[if_pos hw];refine .inl ?_;have hlook:∀p∈m i,p.1∈oi.looksAt ops:=by
   intro p Y;have look:∀y,Operand.tmp y∈oi.op.operands->y∈oi.looksAt ops:=by
    intro y J;unfold Oper.looksAt;refine List.mem_append_left _ ?_;rw[mem_filterMap];exact⟨.tmp y,by simpa using J,rfl⟩
   rcases hmq with⟨y,O,hys,_⟩|⟨y,c,nn,f,O,hys,_⟩
   .rw[hys,mem_singleton]at Y
    rw[Y];exact look y (by rcases O with O|O<;>(rw[O];simp[Op.operands]))
   .rw[hys,mem_singleton]at Y
    rw[Y];exact look y (by rw[O];simp[Op.operands])
  rcases hmq with⟨y,O,hys,hri⟩|⟨y,c,nn,f,O,hys,hty,hcn,hri⟩
  .rw[hys]at hK hlook
   rw[MM hq hm inv hoi hi hr hnA (hlook (y,.put (hdV (r i))) (by simp)) (by rintro z c h;rcases O with O|O<;>(rw[O]at h;cases h))]at hri
   have hrun:(execOp a.eval oi).run P w=.ok (.value (a.eval (.tmp y))) w:=by unfold execOp;rcases O with O|O<;>(rw[O];rfl)
   unfold Oper.wp;rw[hrun];show K (a.put oi.dst (a.eval (.tmp y))) w;rw[hd]
   obtain⟨fp,hrel,hfp⟩:∃fp,Rel D w (Aq σ ρ w) (r i) (a.eval (.tmp y)) fp/\∀b,fp b->T y b:=by
    rw[hri];by_cases hy:y<h.n
    .exact⟨T y,Y.tm y hy,λ_ h=>h⟩
    .exact⟨noF,by rw[Y.dd y (le_of_not_lt hy)];exact λ_ h=>h,λ_ h=>h.elim⟩
   have kM:∀x,AP [(y,.put (hdV (r i)))] (pt ops n r m t0 listed) x=if x=y then hdV (r i)else pt ops n r m t0 listed x:=by
    intro x;unfold AP;by_cases J:x=y
    .subst J
     rw[if_pos rfl];show H1 (if x=x then some (.put (hdV (r i)))else none) _=_
     rw[if_pos rfl];rfl
    .rw[if_neg J]
     show H1 (if y=x then some (.put (hdV (r i)))else none) _=_
     rw[if_neg (Ne.symm J)];rfl
   refine hK _ _ _ _ (Y.move (t1:=AP [(y,.put (hdV (r i)))] (pt ops n r m t0 listed)) (T1:=λx=>if x=y then noF else T x) (λx J=>?_) (λx b E=>?_) (λx J=>?_) (Below.refl _ _) hrel (λb E=>.inl ⟨y,hfp b E,λx J=>?_⟩) (λ_ h=>h) (λ_ h=>.inl h) (λb E=>⟨Y.wr.Dlt b E,λh=>Y.tD y b (hfp b h) E⟩) hdn) (λx b E=>?_) (htm _)
   .rw[kM]
    by_cases U:x=y
    .rw[if_pos U,if_pos U,U];exact hrel.hd
    .rw[if_neg U,if_neg U];exact Y.tm x J
   .split at E
    .exact E.elim
    .exact E
   .rw[kM]
    split
    .rename_i U
     rw[hri,<-U,Y.dd x J];rfl
    .exact Y.dd x J
   .split at J
    .exact J.elim
    .rename_i U;exact Y.tT x y b U J (hfp b E)
   .split at E
    .rename_i J;subst J;exact .inl ⟨i,hi,hdo⟩
    .split at E
     .exact E.elim
     .exact hT x b E
  .rw[hys]at hK hlook
   -- the part, and what is left
   obtain⟨g,hg',hgc⟩:∃g,pt ops n r m t0 listed y=.many .tu nn g/\g c=f c:=by
    rcases XN (r:=r) (t0:=t0) hq hm inv hoi hi hr hnA (hlook (y,.part c) (by simp))with h|⟨_,c',h,h'⟩
    .exact⟨f,h▸hty,rfl⟩
    .rw[O]at h
     cases h;rcases h' with h'|⟨tg,n2,f2,g2,h1,h2,h3⟩
     .exact⟨f,h'▸hty,rfl⟩
     .rw[hty]at h1
      cases h1;exact⟨g2,h2,h3.symm⟩
   have hyn:y<h.n:=by
    rcases lt_or_ge y h.n with h'|h'
    .exact h'
    .rw[Y.dd y h']at hg';cases hg'
   have hry:=Y.tm y hyn;rw[hg']at hry;obtain⟨cs,G,hcv,hcs,hrel,hdis,hfp⟩:=hry;have hcv:a.eval (.tmp y)=.tuple cs:=hcv
   have hrun:(execOp a.eval oi).run P w=.ok (.value (cs.getD c undef)) w:=by
    unfold execOp;rw[O];simp[Instr.extract,hcv,hcs,hcn]
   unfold Oper.wp;rw[hrun];show K (a.put oi.dst (cs.getD c undef)) w;rw[hd];have hrc:Rel D w (Aq σ ρ w) (r i) (cs.getD c undef) (G c):=by rw[hri,<-hgc];exact hrel c hcn
   have kM:∀x,AP [(y,.part c)] (pt ops n r m t0 listed) x=if x=y then NZ c (.many .tu nn g)else pt ops n r m t0 listed x:=by
    intro x;unfold AP;by_cases J:x=y
    .subst J
     rw[if_pos rfl];show H1 (if x=x then some (.part c)else none) _=_
     rw[if_pos rfl,hg'];rfl
    .rw[if_neg J]
     show H1 (if y=x then some (.part c)else none) _=_
     rw[if_neg (Ne.symm J)];rfl
   refine hK _ _ _ _ (Y.move (t1:=AP [(y,.part c)] (pt ops n r m t0 listed)) (T1:=λx=>if x=y then λb=>∃k,k<nn/\k≠c/\G k b else T x) (λx J=>?_) (λx b E=>?_) (λx J=>?_) (Below.refl _ _) hrc (λb E=>.inl ⟨y,(hfp b).2 ⟨c,hcn,E⟩,λx J=>?_⟩) (λ_ h=>h) (λ_ h=>.inl h) (λb E=>⟨Y.wr.Dlt b E,λh=>Y.tD y b ((hfp b).2 ⟨c,hcn,h⟩) E⟩) hdn) (λx b E=>?_) (htm _)
   .rw[kM]
    by_cases U:x=y
    .rw[if_pos U,if_pos U]
     subst U;refine⟨cs,λk=>if k=c then noF else G k,hcv,hcs,λk hk=>?_,λk k' b hk hk' hne h1 h2=>?_,λb=>⟨fun⟨k,h1,h2,h3⟩=>⟨k,h1,by show(if k=c then noF else G k) b;rw[if_neg h2];exact h3⟩,fun⟨k,h1,h2⟩=>?_⟩⟩
     .show Rel D w _ (if k=c then .dead else g k) _ (if k=c then noF else G k)
      by_cases hkc:k=c
      .rw[if_pos hkc,if_pos hkc];exact λ_ h=>h
      .rw[if_neg hkc,if_neg hkc];exact hrel k hk
     .have h1:(if k=c then noF else G k) b:=h1
      have h2:(if k'=c then noF else G k') b:=h2
      split at h1
      .exact h1
      .split at h2
       .exact h2
       .exact hdis k k' b hk hk' hne h1 h2
     .have h2:(if k=c then noF else G k) b:=h2
      split at h2
      .exact h2.elim
      .rename_i hkc;exact⟨k,h1,hkc,h2⟩
    .rw[if_neg U,if_neg U];exact Y.tm x J
   .split at E
    .rename_i U
     subst U;obtain⟨k,h1,_,h3⟩:=E;exact(hfp b).2 ⟨k,h1,h3⟩
    .exact E
   .rw[kM]
    have:x≠y:=λe=>absurd hyn (Nat.not_lt.2 (e▸J))
    rw[if_neg this];exact Y.dd x J
   .split at J
    .obtain⟨k,h1,h2,h3⟩:=J
     exact hdis k c b h1 hcn h2 h3 E
    .rename_i U;exact Y.tT x y b U J ((hfp b).2 ⟨c,hcn,E⟩)
   .split at E
    .rename_i J;subst J;exact .inl ⟨i,hi,hdo⟩
    .split at E
     .rename_i U
      subst U;obtain⟨k,h1,_,h3⟩:=E;exact hT x b ((hfp b).2 ⟨k,h1,h3⟩)
     .exact hT x b E
theorem Jd{Q:Exit->Act->World->Prop}(hq:QOK ops n)(htl:n=ops.size\/Region.chainB .any ops n=true):∀(J m:Nat) (listed:Array Bool) (a:Act) (w:World),n<=m->m<=ops.size->ops.size<=m+J->listed.size=ops.size->
  (∀j,j<ops.size->listed.getD j true=decide (j<m))->wpList P ops Q (ops.toList.drop m) a w->wpAny P .any ops Q J listed a w:=by
 have Y:∀{listed:Array Bool}{j m:Nat},listed.size=ops.size->(∀j,j<ops.size->listed.getD j true=decide (j<m))->j<ops.size->listed.getD j false=decide (j<m):=by
  intro listed j m hs O W;have:=O j W;rw[<-hs]at W;simp[W]at this⊢;exact this
 intro J
 induction J with
 |zero=>
  intro m listed a w hnm hm hf hs O Z;obtain rfl:m=ops.size:=by omega
  refine⟨?_,?_⟩
  .cases hr:Region.ready .any ops listed with
   |nil=>rfl
   |cons j js=>
    have W:j∈Region.ready .any ops listed:=by rw[hr];simp
    obtain⟨U,o,ho,_⟩:=mem_ready.1 W;have E:j<ops.size:=(Array.getElem?_eq_some_iff.1 ho).1;rw[O j E]at U;simp[E]at U
  .have:ops.toList.drop ops.size=[]:=by simp
   rw[this]at Z;exact Z
 |succ f ih=>
  intro m listed a w hnm hm hf hs O Z;by_cases hms:m=ops.size
  .subst hms
   have hnil:Region.ready .any ops listed=[]:=by
    cases hr:Region.ready .any ops listed with
    |nil=>rfl
    |cons j js=>
     have W:j∈Region.ready .any ops listed:=by rw[hr];simp
     obtain⟨U,o,ho,_⟩:=mem_ready.1 W;have E:j<ops.size:=(Array.getElem?_eq_some_iff.1 ho).1;rw[O j E]at U;simp[E]at U
   refine⟨λ_=>?_,λi hi=>by rw[hnil]at hi;cases hi⟩
   have:ops.toList.drop ops.size=[]:=by simp
   rw[this]at Z;exact Z
  .have E:m<ops.size:=by omega
   have hom:ops[m]? =some ops[m]:=by simp[E]
   have hmr:m∈Region.ready .any ops listed:=by
    refine mem_ready.2 ⟨by rw[O m E];simp,ops[m],hom,λe he hb=>?_⟩
    have U:=hq.back m ops[m] e hom he hb;rw[Y hs O (by omega)]
    simp[U]
   refine⟨λh0=>(by rw[h0]at hmr;cases hmr),λi hi=>?_⟩
   have him:i=m:=by
    obtain⟨U,o,ho,hall⟩:=mem_ready.1 hi;have hil:i<ops.size:=(Array.getElem?_eq_some_iff.1 ho).1;rw[O i hil]at U;simp at U;by_cases he:i=m
    .exact he
    .rcases htl with ht|hc
     .omega
     .have h2:=aET.1 hc i (mem_range.2 hil)
      simp only[or_eq_true,decide_eq_true_eq]at h2;rcases h2 with h2|h2
      .omega
      .obtain⟨o',ho',e,he',hb,hon⟩:=Region.waitsFor_spec h2
       obtain rfl:o'=o:=Option.some.inj (ho'.symm.trans ho);have h3:=hall e he' hb;rw[hon,Y hs O (by omega)]at h3
       simp at h3;omega
   subst him
   have hdrop:ops.toList.drop i=ops[i]::ops.toList.drop (i+1):=by
    have:=List.drop_eq_getElem_cons (l:=ops.toList) (i:=i) (by simpa using E)
    simpa using this
   rw[hdrop]at Z
   have hw':wpOp P ops Q i (wpList P ops Q (ops.toList.drop (i+1))) a w:=by
    unfold wpOp;simp only[hom];exact Z
   refine wpOp_mono (λa' w' h'=>ih (i+1) _ a' w' (by omega) (by omega) (by omega) (by simpa using hs) (λj W=>?_) h') hw'
   by_cases hij:i=j
   .subst hij
    have:i<listed.size:=by rw[hs];exact E
    simp[this]
   .rw[getD_set_ne true hij,O j W]
    have:(j<i)=(j<i+1):=by
     apply propext;constructor<;>intro _<;>omega
    simp[this]
def unl(listed:Array Bool)(n:Nat):Nat:=(range n).countP λi=>!listed.getD i true
theorem OC(U:i<listed.size)(O:listed.getD i true=false):∀n,unl (listed.setIfInBounds i true) n+(if i<n then 1 else 0)=unl listed n:=by
 intro n
 induction n with
 |zero=>rfl
 |succ n J=>
  unfold unl at J⊢;rw[List.range_succ,List.countP_append];simp only[List.countP_singleton];by_cases E:i=n
  .simp_all
  .rw[getD_set_ne true E]
   grind
theorem OD(E:listed.getD i true=false):∀n,i<n->0<unl listed n:=by
 intro n J;unfold unl;rw[List.countP_pos_iff]
 grind
theorem Dp(h:dst≠some d):(a.put (some d) v).put dst u=(a.put dst u).put (some d) v:=by
 cases dst with
 |none=>rfl
 |some e=>
  have E:d≠e:=λJ=>h (by grind)
  unfold Act.put;simp;rw[Array.setIfInBounds_comm _ _ E]
theorem QX{Q:Exit->Act->World->Prop}{K' K:Act->World->Prop}{d:Nat}{v:Value}(ho:ops[i]? =some o)(W:∀e a w,e≠.normal->¬Q0 e a w)(hs:∀cs b,o.op≠.select cs b)
  (hl:d∉o.looksAt ops) (hd:o.dst≠some d) (U:∀a1 w1,(∀x,o.dst≠some x->a1.tmps[x]? =a.tmps[x]?)->K' (a1.put (some d) v) w1->K a1 w1)
  (h:wpOp P ops Q0 i K' (a.put (some d) v) w):wpOp P ops Q i K a w:=by
 unfold wpOp at h⊢;simp only[ho]at h⊢;rw[wanted_put o a (some d) v (λd' O=>by cases O;exact hl)]at h
 split
 .rename_i Z
  rw[if_pos Z]at h;rcases h with h|⟨_,_,_,h⟩
  .left
   unfold Oper.wp at h⊢;rw[execOp_put (ops:=ops) o hs a (some d) v (λd' O=>by cases O;exact hl)]at h
   generalize (execOp a.eval o).run P w=r at h⊢;cases r with
   |ok n w'=>
    cases n with
    |value u=>exact U _ _ (λx E=>BL E) (Dp hd▸h)
    |skip=>exact U _ _ (λx E=>BL E) (Dp hd▸h)
    |defer u=>exact U ({a with defers:=u::a.defers}.put o.dst undef) w' (λx E=>BL (a:={a with defers:=u::a.defers}) E) (Dp hd▸h)
    |enter f args=>exact Calls.mono h (λe Y J=>by
      cases e with
      |returned u=>exact U _ _ (λx E=>BL E) (Dp hd▸J)
      |panicked c=>exact(W _ _ _ (by simp) J).elim
      |outgrown=>obtain⟨_,_,J⟩:=J;exact(W _ _ _ (by simp) J).elim)
    |row r args=>exact Rows.mono h (λu Y J=>U _ _ (λx E=>BL E) (Dp hd▸J))
    |_=>exact h
   |halt x w'=>
    cases x<;>first|exact h.elim|exact(W _ _ _ (by simp) h).elim
  .exact(W _ _ _ (by simp) h).elim
 .rename_i Z
  rw[if_neg Z]at h;exact U _ _ (λx E=>BL E) (Dp hd▸h)
def QN(Q:Exit->Act->World->Prop):Exit->Act->World->Prop:=λe a w=>e=.normal/\Q .normal a w
theorem Acg:∀e a w,e≠.normal->¬QN Q e a w:=λ_ _ _ h E=>h E.1
theorem Vl{Q:Exit->Act->World->Prop}{i:Nat}(Y:∀e a w,e≠.normal->¬Q0 e a w)(J:∀a1 U,K' a1 U->K a1 U)
  (h:wpOp P ops Q0 i K' a w):wpOp P ops Q i K a w:=by
 unfold wpOp at h⊢;split
 .grind
 rename_i o Z;simp only[Z]at h;split
 .rename_i W
  rw[if_pos W]at h;rcases h with h|⟨_,_,_,h⟩
  .left
   unfold Oper.wp at h⊢;generalize (execOp a.eval o).run P w=r at h⊢;cases r with
   |ok n w'=>
    cases n with
    |value u=>exact J _ _ h
    |skip=>exact J _ _ h
    |defer u=>exact J _ _ h
    |enter f args=>exact Calls.mono h (λe O E=>by
      cases e with
      |returned u=>exact J _ _ E
      |panicked c=>grind
      |outgrown=>obtain⟨_,_,E⟩:=E;grind)
    |row r args=>exact Rows.mono h (λu O E=>J _ _ E)
    |_=>exact h
   |halt x w'=>
    cases x<;>first|exact h.elim|exact(Y _ _ _ (by simp) h).elim
  grind
 grind
theorem I9:∀(m:Nat) (a:Act) (w:World),ops.size-m<=ops.size->wpList P ops (QN Q) (ops.toList.drop m) a w->wpList P ops Q (ops.toList.drop m) a w:=by
 intro m
 induction hk:ops.size-m generalizing m with
 |zero=>
  intro a w _ h;have e:ops.toList.drop m=[]:=List.drop_eq_nil_of_le (by simp;omega)
  rw[e]at h⊢;exact h.2
 |succ k U=>
  intro a w _ h;have J:m<ops.size:=by omega
  have E:=by
   have:=List.drop_eq_getElem_cons (l:=ops.toList) (i:=m) (by grind)
   omega
  rw[E]at h⊢
  have Y:wpOp P ops (QN Q) m (wpList P ops (QN Q) (ops.toList.drop (m+1))) a w:=by
   unfold wpOp;simp only[show ops[m]? =some ops[m] by simp];exact h
  have:=Vl (Q:=Q) Acg (λa1 O W=>U (m+1) (by omega) a1 O (by omega) W) Y
  unfold wpOp at this;simp only[show ops[m]? =some ops[m] by simp[J]]at this
  exact this
structure FI(P:Program)(ops:Array Oper)(Q:Exit->Act->World->Prop)(f m:Nat)(d y c:Nat)(v:Value)(listed:Array Bool)(a:Act)(w:World):Prop where
 sz:listed.size=ops.size
 ls:∀j,j<ops.size->listed.getD j true=decide (j<m/\j≠f)
 pu:∃cs,a.tmps[y]? =some (.tuple cs)/\cs[c]? =some v
 wl:wpList P ops (QN Q) (ops.toList.drop m) (a.put (some d) v) w
theorem IX{j:Nat}{p:Prop} [Decidable p](E:listed.size=ops.size)(J:j<ops.size)(h:listed.getD j true=decide p):listed.getD j false=decide p:=by grind
theorem K5{Q:Exit->Act->World->Prop}{m c:Nat}{v:Value}(hfm:f<m)(hm:m<ops.size){listed:Array Bool}{a:Act}{w:World}{ot:Oper}(J:ops[m]? =some ot)(h1:d∉ot.looksAt ops)(h2:ot.dst≠some d)(h3:ot.dst≠some y)(h4:∀cs b,ot.op≠.select cs b)
  (h:FI P ops Q f m d y c v listed a w):wpOp P ops Q m (FI P ops Q f (m+1) d y c v (listed.setIfInBounds m true)) a w:=by
 have E:ops.toList.drop m=ot::ops.toList.drop (m+1):=by
  have:=List.drop_eq_getElem_cons (l:=ops.toList) (i:=m) (by simpa using hm)
  grind
 have Z:=h.wl;rw[E]at Z
 have U:wpOp P ops (QN Q) m (wpList P ops (QN Q) (ops.toList.drop (m+1))) (a.put (some d) v) w:=by
  unfold wpOp;simp only[J];exact Z
 refine QX J Acg h4 h1 h2 (λa1 w1 Y hk=>⟨by simpa using h.sz,λj hj=>?_,?_,hk⟩) U
 .by_cases O:m=j
  .subst O
   have:m<listed.size:=by rw[h.sz];exact hm
   have W:m≠f:=by omega
   simp[this,W]
  .rw[getD_set_ne true O,h.ls j hj]
   grind
 .obtain⟨cs,g1,g2⟩:=h.pu
  exact⟨cs,by rw[Y y h3];exact g1,g2⟩
theorem Zc{Q:Exit->Act->World->Prop}(hq:QOK ops n)(hc:Region.chainB .any ops n=true)(fl:FL ops n f)(Y:ops[f]? =some o)(hog:o.guard=none)(hop:o.op=.extract (.tmp y) c)(hod:o.dst=some d)
  (hot:∀t ot,n<=t->ops[t]? =some ot->Region.waitsFor .any ops t f=false->d∉ot.looksAt ops/\ot.dst≠some d/\ot.dst≠some y/\∀cs b,ot.op≠.select cs b) {v:Value}:
  ∀(J m:Nat) (listed:Array Bool) (a:Act) (w:World),n<=m->m<=ops.size->ops.size+1<=m+J->FI P ops Q f m d y c v listed a w->wpAny P .any ops Q J listed a w:=by
 intro J
 induction J with
 |zero=>intro m listed a w _ h1 h2;omega
 |succ g ih=>
  intro m listed a w hnm hms hf h;have hfn:=fl.fn;have hfs:f<ops.size:=by have:=hq.le;omega
  have hfr:f∈Region.ready .any ops listed:=by
   refine mem_ready.2 ⟨by rw[h.ls f hfs];simp,o,Y,λe he hb=>?_⟩
   have h1:=hq.back f o e Y he hb;rw[IX h.sz (by omega) (h.ls e.on (by omega))]
   exact dT ⟨by omega,by omega⟩
  refine⟨λh0=>(by rw[h0]at hfr;cases hfr),λi hi=>?_⟩
  obtain⟨h1,oi,E,U⟩:=mem_ready.1 hi;have O:i<ops.size:=(Array.getElem?_eq_some_iff.1 E).1;rw[h.ls i O]at h1;have h1:=of_decide_eq_false h1;by_cases hif:i=f
  .subst hif
   obtain rfl:oi=o:=Option.some.inj (E.symm.trans Y);unfold wpOp;simp only[E];have hw:Region.wanted oi (yielded ops a.tmps)=true:=by simp[Region.wanted,hog]
   rw[if_pos hw];left;obtain⟨cs,g1,g2⟩:=h.pu;have hev:a.eval (.tmp y)=.tuple cs:=by
    show a.tmps.getD y undef=_;simp[getD_eq_getD_getElem?,g1]
   have hrun:(execOp a.eval oi).run P w=.ok (.value v) w:=by
    unfold execOp;rw[hop];simp[Instr.extract,hev,g2]
   unfold Oper.wp;rw[hrun];show wpAny P .any ops Q g _ (a.put oi.dst v) w;rw[hod];refine Jd hq (.inr hc) g m _ _ w hnm hms (by omega) (by simpa using h.sz) (λj hj=>?_) (I9 m _ w (by omega) h.wl)
   by_cases hij:i=j
   .subst hij
    have:i<listed.size:=by rw[h.sz];exact O
    have hlt:i<m:=by omega
    simp[this,hlt]
   .rw[getD_set_ne true hij,h.ls j hj]
    have:(j<m/\j≠i)=(j<m):=propext ⟨λh=>h.1,λh=>⟨h,Ne.symm hij⟩⟩
    simp only[this]
  .have hnot:¬i<m:=λh=>h1 ⟨h,hif⟩
   have him:i=m:=by
    have h2:=aET.1 hc i (mem_range.2 O);simp only[or_eq_true,decide_eq_true_eq]at h2;rcases h2 with h2|h2
    .omega
    .by_cases he:i=m
     .exact he
     .obtain⟨o',Z,e,he',hb,W⟩:=Region.waitsFor_spec h2
      obtain rfl:o'=oi:=Option.some.inj (Z.symm.trans E);have h3:=U e he' hb;rw[W,IX h.sz (by omega) (h.ls (i-1) (by omega))]at h3
      have:=(of_decide_eq_true h3).1;omega
   subst him;have hnw:Region.waitsFor .any ops i f=false:=by
    cases hwf:Region.waitsFor .any ops i f with
    |false=>rfl
    |true=>
     obtain⟨o',Z,e,he',hb,W⟩:=Region.waitsFor_spec hwf;obtain rfl:o'=oi:=Option.some.inj (Z.symm.trans E);have h3:=U e he' hb;rw[W,IX h.sz hfs (h.ls f hfs)]at h3;exact absurd rfl (of_decide_eq_true h3).2
   obtain⟨g1,g2,g3,g4⟩:=hot i oi hnm E hnw;exact wpOp_mono (λa1 w1 hk=>ih (i+1) _ a1 w1 (by omega) (by omega) (by omega) hk) (K5 (by omega) O E g1 g2 g3 g4 h)
theorem Wt(J:QOK ops n)(Y:MOK A B ops n m)(hs:listed.size=ops.size)(O:∀i,i<n->listed.getD i true=true):pt ops n r m t0 listed=Ci ops r m t0 n:=by
 have Z:=J.le;have U:∀k,k<n->listed.getD k false=true:=λk E=>by
  grind
 funext x
 rw[Hx J Y r t0 x n (le_refl _)];unfold pt;cases W:CJ ops n x with
 |none=>exact Cx n λi hi=>by grind
 |some k=>
  have E:=(Bl W).1;simp only[U k E,E,if_true];exact Cx n λi hi=>by grind
theorem I8{Q:Exit->Act->World->Prop}{K:Act->World->Prop}{i:Nat}{a:Act}{w:World}
  (E:wpOp P ops Q i (λJ w'=>(∀o y z,ops[i]? =some o->o.guard=none->o.op=.move (.tmp y)->o.dst=some z->J=a.put (some z) (a.eval (.tmp y)))->K J w') a w):wpOp P ops Q i K a w:=by
 unfold wpOp at E⊢;cases ho:ops[i]? with
 |none=>
  simp only[ho]at E⊢;exact E λo _ _ h=>by cases h
 |some o=>
  simp only[ho]at E⊢;by_cases Y:∃y z,o.guard=none/\o.op=.move (.tmp y)/\o.dst=some z
  .obtain⟨y,z,hg,Z,hd⟩:=Y
   have U:Region.wanted o (yielded ops a.tmps)=true:=by simp[Region.wanted,hg]
   rw[if_pos U]at E⊢;rcases E with E|E
   .left
    have W:(execOp a.eval o).run P w=.ok (.value (a.eval (.tmp y))) w:=by unfold execOp;rw[Z];rfl
    unfold Oper.wp at E⊢;rw[W]at E⊢;rw[Oper.upon_value]at E⊢
    grind
   .exact .inr E
  .have key:∀J w',((∀O y z,some o=some O->O.guard=none->O.op=.move (.tmp y)->O.dst=some z->J=a.put (some z) (a.eval (.tmp y)))->K J w')->K J w':=λJ w' h=>h λO y z h1 h2 h3 h4=>by
    cases h1;exact absurd ⟨y,z,h2,h3,h4⟩ Y
   split
   .rename_i U
    rw[if_pos U]at E;exact E.imp (Oper.wp_mono λJ w'=>key J w') id
   .rename_i U
    rw[if_neg U]at E;exact key _ _ E
def AlI(h:Cy)(ops:Array Oper)(n:Nat)(listed:Array Bool)(a:Act):Prop:=∀j,j<n->listed.getD j false=true->∀c,ops[j]? =some c->alM h ops c=true->∀y z,c.op=.move (.tmp y)->c.dst=some z->a.tmps.getD z undef=a.tmps.getD y undef
theorem AlI.at(hI:AlI h ops n listed a)(hq:QOK ops n)(hi:i<n)(hr:i∈Region.ready .any ops listed):∀oi,ops[i]? =some oi->∀z y,AlP h ops oi z y->a.tmps.getD z undef=a.tmps.getD y undef:=by
 rintro oi E z y ⟨e,Y,Z,c,hc,W,O,hd⟩
 obtain⟨hun,o2,U,J⟩:=mem_ready.1 hr;obtain rfl:oi=o2:=Option.some.inj (E.symm.trans U);have hlt:=hq.back i oi e E Y Z;exact hI e.on (by omega) (J e Y Z) c hc W y z O hd
theorem AlI.set{a':Act}(hI:AlI h ops n listed a)(hq:QOK ops n)
  (hst:∀j,j<n->∀o,ops[j]? =some o->IT P h ops σ o (Ci ops r m t0 j) (r j) (m j)) (inv:HeadInv .any ops n listed) {i:Nat} (hi:i<n) (hsz:a.tmps.size=h.n)
  (W:∀x,AH ops i≠some x->a'.tmps[x]? =a.tmps[x]?) (hmv:∀o y z,ops[i]? =some o->o.guard=none->o.op=.move (.tmp y)->o.dst=some z->a'=a.put (some z) (a.eval (.tmp y))):AlI h ops n (listed.setIfInBounds i true) a':=by
 intro j hj hl c Z U y z J hd;obtain⟨hg,y2,z2,E,hd2,hnd⟩:=ML U;rw[J]at E;cases E;have hy:a'.tmps.getD y undef=a.tmps.getD y undef:=by
  rw[getD_eq_getD_getElem?,getD_eq_getD_getElem?,W y (hnd i)]
 by_cases O:j=i
 .subst O
  have hz:z<h.n:=by
   rcases hst j hj c Z with⟨Y,_⟩|⟨_,d,hd3,hdn,_⟩
   .rw[U]at Y;cases Y
   grind
  have e:=hmv c y z Z hg J hd;rw[hy,e,BW];have hz2:z<a.tmps.size:=by rw[hsz];exact hz
  show _=a.eval (.tmp y);simp[hz2]
 .rw[getD_set_ne false (Ne.symm O)]at hl
  have hz:AH ops i≠some z:=by
   intro he;exact(hq.ne i j z c hi hj (Ne.symm O) he Z).1 hd
  rw[hy,getD_eq_getD_getElem?,W z hz,<-getD_eq_getD_getElem?];exact hI j hj hl c Z U y z J hd
theorem AbS{Q:Exit->Act->World->Prop}(hq:QOK ops n)(htl:QU ops n)(hm:MOK (isA h ops) (isB h ops) ops n m)
  (hst:∀j,j<n->∀o,ops[j]? =some o->IT P h ops σ o (Ci ops r m t0 j) (r j) (m j))
  {a0:Act} (hend:∀a w D T,PR C h.n σ ρ F (Ci ops r m t0 n) a w D T->(∀x b,T x b->PB ops n X x)->(∀x,(∀i,i<n->AH ops i≠some x)->a.tmps[x]? =a0.tmps[x]?)->wpList P ops Q (ops.toList.drop n) a w)
  (hend0:∀a w D T,PR C h.n σ ρ F (Ci ops r m t0 n) a w D T->(∀x b,T x b->PB ops n X x)->(∀x,(∀i,i<n->AH ops i≠some x)->a.tmps[x]? =a0.tmps[x]?)->wpList P ops (QN Q) (ops.toList.drop n) a w):
  ∀(fuel:Nat) (listed:Array Bool) (a:Act) (w:World) (D:Nat->Prop) (T:Nat->Nat->Prop),HeadInv .any ops n listed->unl listed n+(ops.size-n)<=fuel->
   PR C h.n σ ρ F (pt ops n r m t0 listed) a w D T->(∀x b,T x b->PB ops n X x)->(∀x,(∀i,i<n->AH ops i≠some x)->a.tmps[x]? =a0.tmps[x]?)->AlI h ops n listed a->wpAny P .any ops Q fuel listed a w:=by
 intro fuel
 induction fuel with
 |zero=>
  intro listed a w D T J hf hp hT hA hI;have hle:=hq.le;have U:∀i,i<n->listed.getD i true=true:=by
   intro i hi;cases hu:listed.getD i true with
   |true=>rfl
   |false=>have:=OD hu n hi;omega
  have hpt:pt ops n r m t0 listed=Ci ops r m t0 n:=by
   funext x
   rw[Hx hq hm r t0 x n (le_refl _)];unfold pt;have ld:∀k,k<n->listed.getD k false=true:=λk W=>by
    have h1:=U k W;have h2:k<listed.size:=by rw[J.size];omega
    simp[h2]at h1⊢;exact h1
   cases ho:CJ ops n x with
   |none=>exact Cx n λi hi=>by rw[ld i hi];simp[hi]
   |some k=>
    have W:=(Bl ho).1;simp only[ld k W,W,if_true];exact Cx n λi hi=>by rw[ld i hi];simp[hi]
  rw[hpt]at hp;refine Jd hq (htl.imp id And.left) 0 n listed a w (le_refl _) hle (by omega) J.size (λj hj=>?_) (hend _ _ _ _ hp hT hA)
  by_cases O:j<n
  .rw[U j O];simp[O]
  .rw[J.tail j (by omega) hj];simp[O]
 |succ f ih=>
  intro listed a w D T J hf hp hT hA hI;have hle:=hq.le;by_cases U:∀i,i<n->listed.getD i true=true
  .have hpt:pt ops n r m t0 listed=Ci ops r m t0 n:=by
    funext x
    rw[Hx hq hm r t0 x n (le_refl _)];unfold pt;have ld:∀k,k<n->listed.getD k false=true:=λk W=>by
     have h1:=U k W;have h2:k<listed.size:=by rw[J.size];omega
     simp[h2]at h1⊢;exact h1
    cases ho:CJ ops n x with
    |none=>exact Cx n λi hi=>by rw[ld i hi];simp[hi]
    |some k=>
     have W:=(Bl ho).1;simp only[ld k W,W,if_true];exact Cx n λi hi=>by rw[ld i hi];simp[hi]
   rw[hpt]at hp;refine Jd hq (htl.imp id And.left) (f+1) n listed a w (le_refl _) hle (by omega) J.size (λj hj=>?_) (hend _ _ _ _ hp hT hA)
   by_cases O:j<n
   .rw[U j O];simp[O]
   .rw[J.tail j (by omega) hj];simp[O]
  .have hex:∃i,i<n/\listed.getD i true=false:=by
    apply Classical.byContradiction;intro hno;apply U;intro i hi;cases hu:listed.getD i true with
    |true=>rfl
    |false=>exact absurd ⟨i,hi,hu⟩ hno
   obtain⟨i,⟨Y,hun⟩,hmin⟩:=UI hex;have hoi:ops[i]? =some ops[i]:=by
    have:i<ops.size:=by omega
    simp[this]
   have hir:i∈Region.ready .any ops listed:=by
    refine mem_ready.2 ⟨hun,ops[i],hoi,λe he hb=>?_⟩
    have h1:=hq.back i ops[i] e hoi he hb;have h2:=hmin e.on h1;have h3:e.on<listed.size:=by rw[J.size];omega
    cases hu:listed.getD e.on true with
    |false=>exact absurd ⟨by omega,hu⟩ h2
    |true=>simp[h3]at hu⊢;exact hu
   refine⟨λh0=>(by rw[h0]at hir;cases hir),λj hj=>?_⟩
   have hjs:j<ops.size:=by
    obtain⟨_,o,ho,_⟩:=mem_ready.1 hj;exact(Array.getElem?_eq_some_iff.1 ho).1
   rcases lt_or_ge j n with O|O
   case inr=>
    rcases htl with ht|⟨hc,hs|⟨ff,fl⟩⟩
    .omega
    .exact absurd hj (tail_waits hs hc (by omega) J _ i rfl Y hun j O)
    .obtain⟨hju,oj,hoj,hallj⟩:=mem_ready.1 hj
     have hjn':j=n:=by
      have h2:=aET.1 hc j (mem_range.2 hjs);simp only[or_eq_true,decide_eq_true_eq]at h2;rcases h2 with h2|h2
      .omega
      .by_cases he:j=n
       .exact he
       .obtain⟨o',ho',e,he',hb,hon⟩:=Region.waitsFor_spec h2
        obtain rfl:o'=oj:=Option.some.inj (ho'.symm.trans hoj);have h3:=hallj e he' hb;rw[hon,getD_both (J.tail (j-1) (by omega) (by omega))]at h3
        cases h3
     subst hjn';have lst:∀k,k<j->k≠ff->listed.getD k false=true:=λk W hkf=>by
      obtain⟨o',ho',e,he',hb,hon⟩:=Region.waitsFor_spec (fl.others k W hkf);obtain rfl:o'=oj:=Option.some.inj (ho'.symm.trans hoj);have h3:=hallj e he' hb;rwa [hon]at h3
     have lstT:∀k,k<j->k≠ff->listed.getD k true=true:=λk W hkf=>by
      have h1:=lst k W hkf;have h2:k<listed.size:=by rw[J.size];omega
      simp[h2]at h1⊢;exact h1
     have hif:i=ff:=by
      by_cases he:i=ff
      .exact he
      .have:=lstT i Y he
       rw[hun]at this;cases this
     subst hif;obtain⟨o,y,c,d,hof,hog,hop,hod,hot⟩:=fl.it;have hfr:i∈Region.ready .any ops listed:=hir;have hinv':=J.set hfr Y
     have hallL:∀k,k<j->(listed.setIfInBounds i true).getD k true=true:=λk W=>by
      by_cases Z:i=k
      .subst Z
       have:i<listed.size:=by rw[J.size];omega
       simp[this]
      .rw[getD_set_ne true Z];exact lstT k W (Ne.symm Z)
     have E:=HO (P:=P) (h:=h) (ops:=ops) (Q:=λ_ _ _=>False) (K:=wpList P ops (QN Q) (ops.toList.drop j)) hq hm J Y hfr hst hp hT (hI.at hq Y hfr) (λa' w' D' T' hp' hT' htm'=>by
      rw[Wt hq hm hinv'.size hallL]at hp';exact hend0 a' w' D' T' hp' hT' λx hx=>(htm' x (hx i Y)).trans (hA x hx))
     unfold wpOp at E;simp only[hof]at E;have hw:Region.wanted o (yielded ops a.tmps)=true:=by simp[Region.wanted,hog]
     rw[if_pos hw]at E;rcases E with E|⟨_,_,_,E⟩
     case inr=>exact E.elim
     have hFI:∃v,FI P ops Q i j d y c v listed a w:=by
      unfold Oper.wp at E;have hex:execOp a.eval o=(do let v<-Instr.extract (a.eval (.tmp y)) c;pure (.value v)):=by unfold execOp;rw[hop]
      rw[hex]at E
      have hlsd:∀k,k<ops.size->listed.getD k true=decide (k<j/\k≠i):=λk W=>by
       by_cases hkj:k<j
       .by_cases Z:k=i
        .subst Z;rw[hun];simp
        .rw[lstT k hkj Z];simp[hkj,Z]
       .rw[J.tail k (by omega) W];simp[hkj]
      have hevd:a.eval (.tmp y)=a.tmps.getD y undef:=rfl;cases hv:a.eval (.tmp y)with
      |tuple cs=>
       cases hcs:cs[c]? with
       |some v=>
        refine⟨v,J.size,hlsd,⟨cs,?_,hcs⟩,?_⟩
        .rw[hevd,getD_eq_getD_getElem?]at hv
         cases hty:a.tmps[y]? with
         |none=>rw[hty]at hv;cases hv;simp at hcs
         |some u=>rw[hty]at hv;simp at hv;rw[hv]
        .simp only[hv,Instr.extract,hcs]at E
         have E:wpList P ops (QN Q) (ops.toList.drop j) (a.put o.dst v) w:=by simpa [Oper.upon]using E
         rw[hod]at E;exact E
       |none=>
        simp only[hv,Instr.extract,hcs]at E;simp[Oper.upon,stuck]at E
      |_=>
       simp only[hv,Instr.extract]at E;simp[Oper.upon,stuck]at E
     obtain⟨v,hFI⟩:=hFI;have hnw:Region.waitsFor .any ops j i=false:=by
      cases hwf:Region.waitsFor .any ops j i with
      |false=>rfl
      |true=>
       obtain⟨o',ho',e,he',hb,hon⟩:=Region.waitsFor_spec hwf;obtain rfl:o'=oj:=Option.some.inj (ho'.symm.trans hoj);have h3:=hallj e he' hb;rw[hon,getD_both hun]at h3;cases h3
     obtain⟨g1,g2,g3,g4⟩:=hot j oj (le_refl _) hoj hnw;have hu:0<unl listed j:=OD hun j Y;exact wpOp_mono (λa1 w1 W=>Zc hq hc fl hof hog hop hod hot f (j+1) _ a1 w1 (by omega) (by omega) (by omega) W) (K5 Y hjs hoj g1 g2 g3 g4 hFI)
   have hju:=(mem_ready.1 hj).1;have hcount:=OC (by rw[J.size];exact hjs) hju n
   rw[if_pos O]at hcount;refine I8 (HO hq hm J O hj hst hp hT (hI.at hq O hj) λa' w' D' T' hp' hT' htm' hmv=>ih _ a' w' D' T' (J.set hj O) (by omega) hp' hT' (λx hx=>(htm' x (hx j O)).trans (hA x hx)) (hI.set hq hst J O hp.sz htm' hmv))
theorem PR.prom{N:Nat}{t:Nat->V}{a:Act}{w:World}{D:Nat->Prop}{T:Nat->Nat->Prop}(E:PR C N σ ρ F t a w D T){d:Nat}(hdn:d<N):
  ∃ρ' F',PR C N (σ++(Go.Ve.prom (t d) σ.length).2) ρ' F' (AI t d (Go.Ve.prom (t d) σ.length).1) a w D (λx=>if x=d then noF else T x):=by
 obtain⟨ρ',F',ok,hr'⟩:=Ie (t d) σ ρ F _ (T d) E.wr (E.tm d hdn) (E.tD d) (λi b J=>E.tF i d b J)
 refine⟨ρ',F',E.df,E.sz,λx W=>?_,ok.wr,λx W=>?_,λx b J=>?_,λi x b J Y=>?_,λx y b Z h1 h2=>?_,λx b J=>?_,E.fr,λi b J=>?_,E.D1,E.D2,
  λi U=>(ok.rt i (Nat.lt_of_lt_of_le U E.ml)).trans (E.rt i U),by have:=E.ml;simp;omega,λx b W J=>?_⟩
 .have:¬x=d:=by omega
  simp only[AI,this,if_false];exact E.dd x W
 .by_cases O:x=d
  .subst O;simp only[AI,if_true];exact hr'
  .simp only[AI,O,if_false]
   exact Rel.mono (λ_ h=>h) (λv cv hv=>Aq.ext ok.rt _ _ hv) _ _ _ (λ_ _=>rfl) (E.tm x W)
 .split at J
  .exact J.elim
  .exact E.tD x b J
 .split at Y
  .exact Y
  .rename_i O
   by_cases U:i<σ.length
   .rw[ok.old i U]at J;exact E.tF i x b J Y
   .exact E.tT d x b (Ne.symm O) (ok.new i b (le_of_not_lt U) J) Y
 .split at h1
  .exact h1
  .split at h2
   .exact h2
   .exact E.tT x y b Z h1 h2
 .split at J
  .exact J.elim
  .exact E.tn x b J
 .by_cases U:i<σ.length
  .rw[ok.old i U]at J;exact E.Fn i b J
  .exact E.tn d b (ok.new i b (le_of_not_lt U) J)
 .split at J
  .exact J
  .exact E.tx x b W J
end
theorem PR.close{C:Ctx}:∀(ds:List (Option Nat)) (t:Nat->V) (σ:List V) (ρ:Nat->Value) (F:Nat->Nat->Prop) (T:Nat->Nat->Prop),PR C N σ ρ F t a w D T->
  (∀x b,T x b->some x∈ds)->AQ C N (promA ds ⟨t,σ⟩) a w:=by
 intro ds
 induction ds with
 |nil=>
  intro t σ ρ F T E W;refine⟨E.df,E.dd,D,ρ,F,E.wr,by simpa using E.sz,λx U=>?_,E.fr,E.Fn,E.D1,E.D2,E.rt,E.ml⟩
  have O:x<N:=by simpa using U
  have h1:=E.tm x O;have e:T x=noF:=A7 (λb hb=>by cases W x b hb)
  rw[e]at h1;rw[AY O];exact h1
 |cons d ds Y=>
  intro t σ ρ F T E W;cases d with
  |none=>
   refine Y t σ ρ F T E λx b h=>?_
   have:=W x b h;simpa using this
  |some d=>
   unfold promA;split
   .rename_i J
    have hdn:d<N:=by
     rcases lt_or_ge d N with h|h
     .exact h
     .simp only[E.dd d h]at J;cases J
    obtain⟨ρ',F',Z⟩:=E.prom hdn;refine Y _ _ ρ' F' _ Z λx b h=>?_
    split at h
    .exact h.elim
    grind
   .rename_i J
    refine Y t σ ρ F T E λx b h=>?_
    have:=W x b h;rcases mem_cons.1 this with he|he
    .cases he
     by_cases U:d<N
     .exact absurd h (AF _ _ _ (by simpa using J) (E.tm d U) b)
     .exact absurd h (E.tx d b (le_of_not_lt U))
    .exact he
end Go.Ve

