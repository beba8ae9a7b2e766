/- Regions that draw their order: quiet operations in whatever order, then a tail in order. -/
import Derived.Test.YtmmmafnkggaknaaGreatVp
import Derived.StillTail
set_option linter.all false
namespace Go.Ve
variable{σ:List V}{op:Op}{ev ev':Operand->V}{P:Program}{K:V->Prop}
theorem Ki(h:∀x∈op.operands,ev x=ev' x)(e:MG P σ ev op K):MG P σ ev' op K:=by
 have E:∀ps:Array (Nat×Operand),(∀x∈(ps.toList.map (·.2)).toArray,ev x=ev' x)->(ps.toList.map λp=>(p.1,ev p.2))=ps.toList.map λp=>(p.1,ev' p.2):=by
  intro ps hp;apply List.map_congr_left;intro p J;rw[hp p.2 (by simp only[List.mem_toArray,List.mem_map];exact⟨p,J,rfl⟩)]
 unfold MG at e⊢;cases op<;>simp only[Op.operands]at h<;>simp only at e⊢ <;>try exact e
 case call c=>
  obtain⟨callee,args,ats⟩:=c;have J:args.toList.map ev=args.toList.map ev':=List.map_congr_left λx W=>h x (by simp[Call.operands];right;simpa using W)
  cases callee with
  |value f=>
   have hf:ev f=ev' f:=h f (by simp[Call.operands])
   cases f<;>simp only at e⊢ <;>first|exact e|(rw[<-J,<-hf];exact e)|(rw[<-J];exact e)
  |invoke r m=>
   have hf:ev r=ev' r:=h r (by simp[Call.operands])
   simp only at e⊢;rw[<-J,<-hf];exact e
  |builtin b=>simp only at e⊢;rw[<-J];exact e
 case build t ps=>rw[<-E ps h];exact e
 case buildSlice t n ps=>rw[<-E ps h];exact e
 case slice t x U Z mx=>
  have h1:U.map ev=U.map ev':=by cases U with|none=>rfl|some y=>simp;exact h y (by simp)
  have h2:Z.map ev=Z.map ev':=by cases Z with|none=>rfl|some y=>simp;exact h y (by simp)
  rw[<-h1,<-h2,<-h x (by simp)];exact e
 case makeFunc fn first cs=>
  have J:cs.toList.map ev=cs.toList.map ev':=List.map_congr_left λx W=>h x (by simp;right;simpa using W)
  rw[<-J];exact e
 all_goals (simp at h;simp_all)
theorem O6(e:MG P σ ev op K):∃r,K r/\∀K':V->Prop,K' r->MG P σ ev op K':=by
 unfold MG at e⊢;cases op<;>simp only at e⊢ <;>try exact e.elim
 case move x=>exact⟨_,e.2,λK' E=>⟨e.1,E⟩⟩
 case assign x=>exact⟨_,e.2,λK' E=>⟨e.1,E⟩⟩
 case pick c x y=>
  unfold Vb at e⊢;split at e<;>try exact e.elim
  rename_i b hb;obtain⟨J,U,h3,h4⟩:=e;cases b
  .exact⟨_,h4 rfl,λK' E=>⟨J,U,(λh=>by cases h),λ_=>E⟩⟩
  .exact⟨_,h3 rfl,λK' E=>⟨J,U,λ_=>E,(λh=>by cases h)⟩⟩
 case load t x=>
  unfold H0 at e⊢;split at e<;>try exact e.elim
  .split at e<;>try exact e.elim
   .exact⟨_,e.2,λK' E=>⟨e.1,E⟩⟩
   .exact⟨_,e.2,λK' E=>⟨e.1,E⟩⟩
   .exact⟨_,e.2,λK' E=>⟨e.1,E⟩⟩
  .split at e<;>try exact e.elim
   .exact⟨_,e.2,λK' E=>⟨e.1,E⟩⟩
   .exact⟨_,e.2.2,λK' E=>⟨e.1,e.2.1,E⟩⟩
   .exact⟨_,e.2,λK' E=>⟨e.1,E⟩⟩
 case fieldAddr t x k=>
  unfold Jl at e⊢;split at e<;>try exact e.elim
  split at e<;>try exact e.elim
  .exact⟨_,e.2,λK' E=>⟨e.1,E⟩⟩
  .exact⟨_,e.2,λK' E=>⟨e.1,E⟩⟩
  .exact⟨_,e.2,λK' E=>⟨e.1,E⟩⟩
 case indexAddr t x i=>
  unfold B6 at e⊢;split at e<;>try exact e.elim
  split at e<;>try exact e.elim
  .exact⟨_,e.2.2.2,λK' E=>⟨e.1,e.2.1,e.2.2.1,E⟩⟩
  .exact⟨_,e.2.2.2,λK' E=>⟨e.1,e.2.1,e.2.2.1,E⟩⟩
 case index t x i=>
  unfold O7 Lh at e⊢;rcases e with⟨J,e⟩|⟨J,e⟩
  .split at e<;>try exact e.elim
   exact⟨_,e.2,λK' E=>.inl ⟨J,e.1,E⟩⟩
  .split at e<;>try exact e.elim
   exact⟨_,e.2.2.2,λK' E=>.inr ⟨J,e.1,e.2.1,e.2.2.1,E⟩⟩
 case nilCheck x=>
  unfold Zw at e⊢;split at e<;>try exact e.elim
  .exact⟨_,e,λK' E=>E⟩
  .exact⟨_,e,λK' E=>E⟩
  .exact⟨_,e.2,λK' E=>⟨e.1,E⟩⟩
 case binOp op t x y yt=>
  unfold Qo at e⊢;split at e
  .split at e
   .rename_i h;exact⟨_,e.2,λK' E=>by first|exact⟨e.1,E⟩|(simp only[h];exact⟨e.1,E⟩)⟩
   .rename_i h;obtain⟨z,J,U,h3,W⟩:=e;exact⟨z,W,λK' E=>by first|exact⟨z,J,U,h3,E⟩|(simp only[h];exact⟨z,J,U,h3,E⟩)⟩
  .obtain⟨z,J,U,h3,W⟩:=e;exact⟨z,W,λK' E=>⟨z,J,U,h3,E⟩⟩
 case unOp op t x=>
  unfold qUn at e⊢;split at e<;>try exact e.elim
  .exact⟨_,e,λK' E=>E⟩
  .exact⟨_,e,λK' E=>E⟩
 case convert s d x=>
  unfold MN at e⊢;unfold Ql at e⊢;split at e
  .exact⟨_,e,λK' E=>E⟩
  .exact⟨_,e,λK' E=>E⟩
  .split at e
   .rename_i h;exact⟨_,e,λK' E=>by first|exact E|(simp only[h];exact E)⟩
   .exact e.elim
  .obtain⟨z,J,U,W⟩:=e;exact⟨z,W,λK' E=>⟨z,J,U,E⟩⟩
 case extract x i=>
  unfold Cw at e⊢;split at e<;>try exact e.elim
  exact⟨_,e.2.2,λK' E=>⟨e.1,e.2.1,E⟩⟩
 case build t ps=>
  unfold Kl at e⊢;split at e<;>try exact e.elim
  obtain⟨J,e⟩:=e;split at e<;>try exact e.elim
  rename_i h;exact⟨_,e,λK' E=>⟨J,E⟩⟩
 case buildSlice t n ps=>
  unfold B7 at e⊢;split at e<;>try exact e.elim
  obtain⟨J,U,e⟩:=e;split at e<;>try exact e.elim
  rename_i h;exact⟨_,e.2,λK' E=>⟨J,U,e.1,E⟩⟩
 case alloc t=>
  unfold MU at e⊢;split at e<;>try exact e.elim
  exact⟨_,e.2,λK' E=>⟨e.1,E⟩⟩
 case box t x=>
  obtain⟨J,U|U⟩:=e
  .exact⟨_,U.2,λK' E=>⟨J,.inl ⟨U.1,E⟩⟩⟩
  .exact⟨_,U,λK' E=>⟨J,.inr E⟩⟩
 case makeSlice t l c=>
  unfold Vf at e⊢;split at e<;>try exact e.elim
  exact⟨_,e.2.2,λK' E=>⟨e.1,e.2.1,E⟩⟩
 case slice t x lo hi mx=>
  obtain⟨Z,e⟩:=e;unfold Kj at e⊢;split at e<;>try exact e.elim
  all_goals
   split at e<;>try exact e.elim
   rename_i J U
  .exact⟨_,e.2,λK' E=>⟨Z,e.1,E⟩⟩
  .exact⟨_,e.2.2,λK' E=>⟨Z,e.1,e.2.1,E⟩⟩
  .exact⟨_,e.2.2,λK' E=>⟨Z,e.1,e.2.1,E⟩⟩
 case call c=>
  obtain⟨callee,args,ats⟩:=c;simp only at e⊢;split at e
  .obtain⟨r,J,U,W⟩:=e;exact⟨r,W,λK' E=>⟨r,J,U,E⟩⟩
  .unfold MP at e⊢
   split at e
   case h_2=>exact e.elim
   obtain⟨Z,r,J,U,W⟩:=e;exact⟨r,W,λK' E=>⟨Z,r,J,U,E⟩⟩
  .unfold Li at e⊢
   split at e<;>try exact e.elim
   .obtain⟨J,e⟩:=e
    unfold qLen at e⊢;split at e<;>first|exact e.elim|exact⟨_,e,λK' E=>⟨J,E⟩⟩
   .unfold Dv at e⊢
    split at e<;>first|exact e.elim|exact⟨_,e,λK' E=>E⟩
   .unfold Dv at e⊢
    split at e<;>first|exact e.elim|exact⟨_,e,λK' E=>E⟩
  .unfold MR at e⊢
   split at e
   case h_2=>exact e.elim
   obtain⟨t,fn,Z,r,J,U,W⟩:=e;exact⟨r,W,λK' E=>⟨t,fn,Z,r,J,U,E⟩⟩
  .exact e.elim
 case makeInterface t x=>exact⟨_,e.2,λK' E=>⟨e.1,E⟩⟩
 case makeFunc fn first cs=>
  split at e
  case h_2=>exact e.elim
  exact⟨_,e.2,λK' E=>⟨e.1,E⟩⟩
def U9(h:∀x∈op.operands,ev x=ev' x)(e:qop P σ ev op K):qop P σ ev' op K:=Ki h e
def U8(e:qop P σ ev op K):∃r,K r/\qop P σ ev op (λr'=>r'=r):=by
 obtain⟨r0,⟨r,hs,E⟩,hd⟩:=O6 e;exact⟨r,E,hd _ ⟨r,hs,rfl⟩⟩
theorem MF{K':V->Prop}(e:MG P σ ev op K)(h:∀r,K r->K' r):MG P σ ev op K':=by
 obtain⟨r,E,hd⟩:=O6 e
 grind
end Go.Ve


namespace Go.Ve
variable{a:Act}{ops:Array Oper}{h:Cs}{C:Ctx}{σ:List V}{N i j n x y:Nat}{B F T:Nat->Nat->Prop}{A D fp:Nat->Prop}{t:Nat->V}{ρ:Nat->Value}{o:Oper}{w:World}
def QK(h:Cs)(d:Option Nat)(t:Nat->V)(K:(Nat->V)->Prop)(r:V):Prop:=
 match d with
 |some d=>d<h.n/\K (AI t d (if h.fz.contains d then frz r else r))
 |none=>False
def JW(t:Nat->V)(d:Option Nat):Nat->V:=
 match d with
 |some d=>AI t d udV
 |none=>t
def Xl(ops:Array Oper)(y:Nat):Bool:=decide (((List.range ops.size).filter λj=>match ops[j]? with
 |some o=>(o.looksAt ops).contains y
 |none=>false).length<=1)
def AH(ops:Array Oper)(i:Nat):Option Nat:=(ops[i]?).bind (·.dst)
def mvB(ops:Array Oper)(o:Oper)(y:Nat):Bool:=(o.looksAt ops).contains y&&Xl ops y&&o.after.toList.any λe=>Region.binds .any e&&(match AH ops e.on with
 |some d=>Nat.beq d y
 |none=>false)
def Ng(c:Nat):V->V
 |.many t n f=>.many t n λk=>if k=c then .dead else f k
 |v=>v
inductive Tk where
 |all
 |part (c:Nat)
 |put (v:V)
variable{m:Nat->List (Nat×Tk)}
def Tk.isPart:Tk->Bool
 |.part _=>true
 |_=>false
def hdV:V->V
 |.nd true true _ n _=>.nd true false 0 n λ_ _=>.dead
 |_=>.dead
theorem Rel.hd{R:V->Value->Prop}{v:V}{cv:Value}(h:Rel D w R v cv fp):Rel D w R (hdV v) cv noF:=by
 unfold hdV;split
 .rcases h with⟨h1,Z,W,_⟩|⟨b,o,cap,F,U,E,e,hs,_⟩
  .exact .inl ⟨h1,Z,Pi W,λ_ h=>h⟩
  .exact .inr ⟨b,o,cap,λ_ _=>noF,U,E,e,hs,λ_ _ _ J=>absurd J (Nat.not_lt_zero _),λ_=>⟨λh=>absurd h (by simp),λ_ _ _ _ J=>absurd J (Nat.not_lt_zero _),λ_ h=>h⟩,λh=>by grind⟩
 .exact λ_ h=>h
def kapp(e:Tk)(v:V):V:=match e with
 |.all=>.dead
 |.part c=>Ng c v
 |.put u=>u
def HR(o:Option Tk)(v:V):V:=match o with
 |some e=>kapp e v
 |none=>v
theorem QB(a b:Nat)(v:V):Ng a (Ng b v)=Ng b (Ng a v):=by
 cases v<;>try rfl
 show V.many _ _ _=V.many _ _ _
 grind
def VI(a b:Option Tk)(v:V)(h:∀x y,a=some x->b=some y->x.isPart=true/\y.isPart=true):HR a (HR b v)=HR b (HR a v):=by
 cases a with
 |none=>rfl
 |some x=>
  cases b with
  |none=>rfl
  |some y=>
   obtain⟨E,e⟩:=h x y rfl rfl;cases x<;>first|trivial|skip
   cases y<;>first|cases e|rfl
   exact QB _ _ _
def Bf:List (Nat×Tk)->Nat->Option Tk
 |[],_=>none
 |(y,tk)::l,x=>if y=x then some tk else Bf l x
def CG:∀{l:List (Nat×Tk)}{x:Nat}{e:Tk},Bf l x=some e->(x,e)∈l
 |[],_,_,h=>by cases h
 |(y,tk')::l,x,e,h=>by
  unfold Bf at h;split at h
  .grind
  .exact mCM _ (CG h)
def AP(ys:List (Nat×Tk))(t:Nat->V):Nat->V:=λx=>HR (Bf ys x) (t x)
def DB(t:Nat->V):AP [] t=t:=rfl
def DW(ops:Array Oper)(y:Nat):Bool:=(List.range ops.size).all λj=>match AH ops j with
 |some d=>!Nat.beq d y
 |none=>true
def mvR(ops:Array Oper)(o:Oper)(y:Nat):Bool:=(o.looksAt ops).contains y&&Xl ops y&&DW ops y
def Lt(ops:Array Oper)(y:Nat):List Nat:=(List.range ops.size).filter λj=>match ops[j]? with
 |some o=>(o.looksAt ops).contains y
 |none=>false
def KJ(ops:Array Oper):List Nat->Bool
 |[]=>true
 |i::l=>(match l with
  |[]=>true
  |j::_=>Region.waitsFor .any ops j i)&&KJ ops l
def mvC(ops:Array Oper)(o:Oper)(y:Nat):Bool:=(o.looksAt ops).contains y&&DW ops y&&KJ ops (Lt ops y)
def D8(op:Op):List Nat:=op.operands.toList.filterMap λx=>match x with
 |.tmp y=>some y
 |_=>none
def isFn:Op->Bool
 |.call c=>match c.callee with
  |.value (.func _)=>true
  |_=>false
 |_=>false
def alM(h:Cs)(ops:Array Oper)(o:Oper):Bool:=o.guard.isNone&&(match o.op,o.dst with
 |.move (.tmp y),some z=>h.fz.contains (3000000+y)&&DW ops y&&ops.toList.any λc=>isFn c.op&&(D8 c.op).contains z
 |_,_=>false)
def alB(h:Cs)(ops:Array Oper)(o:Oper)(y:Nat):Bool:=o.after.toList.any λe=>Region.binds .any e&&(match ops[e.on]? with
 |some c=>alM h ops c&&(match c.op,c.dst with
  |.move (.tmp y'),some z=>Nat.beq y' y&&(D8 o.op).contains z
  |_,_=>false)
 |none=>false)
def alU(h:Cs)(ops:Array Oper)(y:Nat):List Nat:=(List.range ops.size).filter λj=>match ops[j]? with
 |some o=>alB h ops o y
 |none=>false
def PU(h:Cs)(ops:Array Oper)(o:Oper)(p:Nat×Tk):Bool:=!p.2.isPart&&alB h ops o p.1&&DW ops p.1&&KJ ops (alU h ops p.1)&&(List.range ops.size).all λj=>match ops[j]? with
 |some oj=>!(oj.looksAt ops).contains p.1||alM h ops oj
 |none=>true
def AlP(h:Cs)(ops:Array Oper)(o:Oper)(z y:Nat):Prop:=∃e∈o.after,Region.binds .any e=true/\∃c,ops[e.on]? =some c/\alM h ops c=true/\c.op=.move (.tmp y)/\c.dst=some z
def WS(ops:Array Oper)(i j:Nat):Prop:=j<i/\∀listed:Array Bool,(∀k ok,ops[k]? =some ok->listed.getD k false=true->∀e∈ok.after,Region.binds .any e=true->listed.getD e.on false=true)->
 (∀oi,ops[i]? =some oi->∀e∈oi.after,Region.binds .any e=true->listed.getD e.on false=true)->listed.getD j false=true
theorem WS.of(Z:∀o e,ops[i]? =some o->e∈o.after->Region.binds .any e=true->e.on<i)(h:Region.waitsFor .any ops i j=true):WS ops i j:=by
 obtain⟨o,E,e,J,W,U⟩:=Region.waitsFor_spec h;exact⟨U▸Z o e E J W,λlisted _ h3=>U▸h3 o E e J W⟩
theorem WS.trans{k:Nat}(hs:∃o,ops[j]? =some o)(h:WS ops i j)(U:WS ops j k):WS ops i k:=by
 refine⟨Nat.lt_trans U.1 h.1,λlisted J W=>U.2 listed J λoj E e Z hb=>?_⟩
 exact J j oj E (h.2 listed J W) e Z hb
theorem WS.listed{ops:Array Oper}{i j:Nat}(h:WS ops i j){listed:Array Bool}(J:∀k ok,ops[k]? =some ok->listed.getD k false=true->∀e∈ok.after,Region.binds .any e=true->listed.getD e.on false=true)(U:listed.getD i false=true):listed.getD j false=true:=
 h.2 listed J λoi E e W Z=>J i oi E U e W Z
theorem JJ{ops:Array Oper}(U:∀j o e,ops[j]? =some o->e∈o.after->Region.binds .any e=true->e.on<j):∀{l:List Nat},KJ ops l=true->(∀i∈l,∃o,ops[i]? =some o)->l.Pairwise λi j=>WS ops j i
 |[],_,_=>List.Pairwise.nil
 |i::l,h,hs=>by
  unfold KJ at h;rw[bAE]at h;have J:=JJ U h.2 λi W=>hs i (mCM _ W)
  refine List.pairwise_cons.2 ⟨λk E=>?_,J⟩
  cases l with
  |nil=>grind
  |cons j l=>
   have Z:=WS.of (U j) h.1;rcases List.mem_cons.1 E with rfl|E
   .grind
   .exact((List.pairwise_cons.1 J).1 k E).trans (hs j (by simp)) Z
theorem QT{oi oj:Oper}(hb:∀j o e,ops[j]? =some o->e∈o.after->Region.binds .any e=true->e.on<j)(h:KJ ops (Lt ops y)=true)(hi:ops[i]? =some oi)(W:y∈oi.looksAt ops)(hj:ops[j]? =some oj)(U:y∈oj.looksAt ops):j=i\/WS ops i j\/WS ops j i:=by
 have E:∀k ok,ops[k]? =some ok->y∈ok.looksAt ops->k∈Lt ops y:=by
  intro k ok Z hyk;unfold Lt
  grind
 have hp:=JJ hb h λk Z=>by
  have Z:=List.mem_range.1 (List.mem_filter.1 Z).1;exact⟨ops[k],by simp⟩
 obtain⟨a,ha,ea⟩:=List.getElem_of_mem (E i oi hi W);obtain⟨b,J,eb⟩:=List.getElem_of_mem (E j oj hj U);rcases Nat.lt_trichotomy a b with hlt|heq|hlt
 .have:=List.pairwise_iff_getElem.1 hp a b ha J hlt
  rw[ea,eb]at this;exact .inr (.inr this)
 .subst heq
  exact .inl (eb.symm.trans ea)
 .have:=List.pairwise_iff_getElem.1 hp b a J ha hlt
  rw[ea,eb]at this;exact .inr (.inl this)
theorem CE(h:DW ops y=true):∀j,AH ops j≠some y:=by
 intro j e;have hs:j<ops.size:=by
  rcases Nat.lt_or_ge j ops.size with h|h
  .omega
  .unfold AH at e
   grind
 have:=aET.1 h j (List.mem_range.2 hs)
 simp_all
def exB(ops:Array Oper)(o:Oper)(y c:Nat):Bool:=(o.looksAt ops).contains y&&((List.range ops.size).all λj=>match ops[j]? with
 |some oj=>!(oj.looksAt ops).contains y||(oj.guard.isNone&&(match oj.op with
  |.extract (.tmp y') c'=>Nat.beq y' y&&(!Nat.beq c' c||oj.dst==o.dst)
  |_=>false))
 |none=>true)&&o.after.toList.any λe=>Region.binds .any e&&(match AH ops e.on with
 |some d=>Nat.beq d y
 |none=>false)
def I6(ops:Array Oper)(o:Oper)(p:Nat×Tk):Bool:=match p.2 with
 |.all=>mvB ops o p.1
 |.part c=>exB ops o p.1 c
 |.put _=>mvB ops o p.1||mvR ops o p.1||mvC ops o p.1
structure PR(C:Ctx)(N:Nat)(σ:List V)(ρ:Nat->Value)(F:Nat->Nat->Prop)(t:Nat->V)(a:Act)(w:World)(D:Nat->Prop)(T:Nat->Nat->Prop):Prop where
 df:a.defers=[]
 sz:a.tmps.size=N
 dd:∀x,N<=x->t x=.dead
 wr:BG σ w D ρ F
 tm:∀x,x<N->Rel D w (Au σ ρ w) (t x) (a.tmps.getD x undef) (T x)
 tD:∀x b,T x b->¬D b
 tF:∀i x b,F i b->¬T x b
 tT:∀x y b,x≠y->T x b->¬T y b
 tn:∀x b,T x b->C.W b\/C.w0.heap.size<=b
 fr:Fr C.w0 w C.W
 Fn:∀i b,F i b->C.W b\/C.w0.heap.size<=b
 D1:∀b,C.D0 b->D b
 D2:∀b,D b->b<C.w0.heap.size->C.D0 b\/C.W b
 rt:∀i,i<C.m->ρ i=C.ρ0 i
 ml:C.m<=σ.length
 tx:∀x b,N<=x->¬T x b
def mq(t:Nat->V)(o:Oper)(ys:List (Nat×Tk))(r:V):Prop:=
 (∃y,(o.op=.assign (.tmp y)\/o.op=.move (.tmp y))/\ys=[(y,.put (hdV r))]/\r=t y)\/
 ∃y c n f,o.op=.extract (.tmp y) c/\ys=[(y,.part c)]/\t y=.many .tu n f/\c<n/\r=f c
def Ip(d:Option Nat)(r:V)(t:Nat->V):Nat->V:=match d with
 |some d=>AI t d r
 |none=>t
def Qt:Op->Bool
 |.extract _ _=>false
 |_=>true
def PR.ok{C:Ctx}{N:Nat}{σ:List V}{ρ:Nat->Value}{F:Nat->Nat->Prop}{t:Nat->V}{a:Act}{w:World}{D:Nat->Prop}{T:Nat->Nat->Prop}(h:PR C N σ ρ F t a w D T):Wok w:=
 C.ok.1.same λp e=>h.fr.block p.1 (C.ok.1.lt e) (C.ok.2 p e)
def LQ(P:Program)(N:Nat)(σ:List V)(Al:Nat->Nat->Prop)(o:Oper)(t:Nat->V)(ys:List (Nat×Tk))(r:V):Prop:=
 ∀(C:Ctx) (ρ:Nat->Value) (F:Nat->Nat->Prop) (a:Act) (w:World) (D:Nat->Prop) (T:Nat->Nat->Prop) (e:Nat->V),(∀x,(x∈D8 o.op\/Bf ys x≠none)->e x=t x)->(∀z y,Al z y->a.tmps.getD z undef=a.tmps.getD y undef)->PR C N σ ρ F e a w D T->
  ∀(next:Act->World->Prop) (Q:Exit->Act->World->Prop),(∀E w' D' T',PR C N σ ρ F (Ip o.dst r (AP ys e)) E w' D' T'->(∀x b,T' x b->o.dst=some x\/∃J,T x J)->(∀x,o.dst≠some x->E.tmps[x]? =a.tmps[x]?)->next E w')->o.wp P a w next Q
def vq(P:Program)(h:Cs)(ops:Array Oper)(σ:List V):List Oper->((Nat->V)->Prop)->(Nat->V)->Prop
 |[],K,t=>K t
 |o::rest,K,t=>match o.guard with
  |none=>(alM h ops o=false/\(qop P σ (Ms.ev ⟨t,σ⟩) o.op (QK h o.dst t (vq P h ops σ rest K))\/(∃ys d r,o.dst=some d/\d<h.n/\h.fz.contains d=false/\(∀p∈ys,I6 ops o p=true)/\mq t o ys r/\vq P h ops σ rest K (AI (AP ys t) d r))\/
   ∃ys r,(∀p∈ys,I6 ops o p=true\/PU h ops o p=true)/\Qt o.op=true/\LQ P h.n σ (AlP h ops o) o t ys r/\vq P h ops σ rest K (Ip o.dst r (AP ys t))))\/
   (alM h ops o=true/\∃d,o.dst=some d/\d<h.n/\vq P h ops σ rest K (AI t d .dead))
  |some (j,want)=>match gv t ops j with
   |.c (.bool b)=>(b=want->qop P σ (Ms.ev ⟨t,σ⟩) o.op (QK h o.dst t (vq P h ops σ rest K)))/\(b=(!want)->(∀d,o.dst=some d->d<h.n)/\vq P h ops σ rest K (JW t o.dst))
   |v=>v=udV/\(∀d,o.dst=some d->d<h.n)/\vq P h ops σ rest K (JW t o.dst)
def gskip(v:V)(e:Bool):Prop:=v=.c (.bool (!e))\/v=udV
def promA:List (Option Nat)->Ms->Ms
 |[],S=>S
 |none::ds,S=>promA ds S
 |some d::ds,S=>if AL (S.t d)then promA ds ⟨AI S.t d (prom (S.t d) S.σ.length).1,S.σ++(prom (S.t d) S.σ.length).2⟩else promA ds S
def Yo:Op->Bool
 |.select _ _=>false
 |_=>true
def flB(ops:Array Oper)(n f:Nat):Bool:=(List.range n).all (λi=>i==f||Region.waitsFor .any ops n i)&&match ops[f]? with
 |some o=>o.guard.isNone&&match o.op,o.dst with
  |.extract (.tmp y) _,some d=>(List.range ops.size).all λt=>decide (t<n)||Region.waitsFor .any ops t f||match ops[t]? with
   |some ot=>!(ot.looksAt ops).contains d&&ot.dst !=some d&&ot.dst !=some y&&Yo ot.op
   |none=>true
  |_,_=>false
 |none=>false
structure FL(ops:Array Oper)(n f:Nat):Prop where
 fn:f<n
 others:∀i,i<n->i≠f->Region.waitsFor .any ops n i=true
 it:∃o y c d,ops[f]? =some o/\o.guard=none/\o.op=.extract (.tmp y) c/\o.dst=some d/\∀t ot,n<=t->ops[t]? =some ot->Region.waitsFor .any ops t f=false->d∉ot.looksAt ops/\ot.dst≠some d/\ot.dst≠some y/\∀cs b,ot.op≠.select cs b
theorem XL{f:Nat}(hf:f<n)(h:flB ops n f=true):FL ops n f:=by
 unfold flB at h;rw[bAE]at h;obtain⟨h1,E⟩:=h;refine⟨hf,λi hi hne=>?_,?_⟩
 .grind
 .split at E
  case h_2=>cases E
  rename_i o ho;rw[bAE]at E;obtain⟨hg,E⟩:=E;split at E
  case h_2=>cases E
  rename_i y c d U hd;refine⟨o,y,c,d,ho,by simpa using hg,U,hd,λt ot ht J Z=>?_⟩
  have:=aET.1 E t (List.mem_range.2 (Array.getElem?_eq_some_iff.1 J).1);rw[J,Z]at this;have W:¬t<n:=by omega
  simp only[W,decide_false,Bool.false_or,bAE,Bool.not_eq_true',bne_iff_ne,ne_eq]at this;obtain⟨⟨⟨g1,g2⟩,g3⟩,g4⟩:=this;refine⟨λhm=>?_,g2,g3,λcs b e=>?_⟩
  .have:(ot.looksAt ops).contains d=true:=by simpa using hm
   rw[g1]at this;cases this
  .rw[e]at g4;cases g4
def O5(ops:Array Oper)(n:Nat):Bool:=
 decide (n<=ops.size)&&
 (List.range n).all (λi=>match ops[i]? with
  |none=>false
  |some oi=>match oi.dst with
   |none=>true
   |some d=>!(oi.looksAt ops).contains d&&(List.range n).all λj=>j==i||match ops[j]? with
    |none=>false
    |some oj=>oj.dst !=some d&&(!(oj.looksAt ops).contains d||Region.waitsFor .any ops j i))&&
 (List.range ops.size).all (λj=>match ops[j]? with
  |some o=>o.after.toList.all λe=>!Region.binds .any e||decide (e.on<j)
  |none=>false)
def HZ(ops:Array Oper)(n:Nat):Bool:=
 O5 ops n&&(n==ops.size||(Region.chainB .any ops n&&(Region.sinkB .any ops n||(List.range n).any (flB ops n))))
structure QOK(ops:Array Oper)(n:Nat):Prop where
 le:n<=ops.size
 dst:∀i,i<n->∃oi,ops[i]? =some oi/\∀d,oi.dst=some d->d∉oi.looksAt ops
 ne:∀i j d oj,i<n->j<n->i≠j->AH ops i=some d->ops[j]? =some oj->oj.dst≠some d/\(d∈oj.looksAt ops->∃e∈oj.after,Region.binds .any e=true/\e.on=i)
 back:∀j o e,ops[j]? =some o->e∈o.after->Region.binds .any e=true->e.on<j
def PJ(ops:Array Oper)(n:Nat):Prop:=n=ops.size\/(Region.chainB .any ops n=true/\(Region.sinkB .any ops n=true\/∃f,FL ops n f))
theorem Jj(h:O5 ops n=true):QOK ops n:=by
 simp only[O5,bAE,decide_eq_true_eq]at h;obtain⟨⟨h1,h2⟩,h3⟩:=h
 have hd:∀i,i<n->∃oi,ops[i]? =some oi/\∀d,oi.dst=some d->d∉oi.looksAt ops/\∀j,j<n->j≠i->∃oj,ops[j]? =some oj/\oj.dst≠some d/\(d∈oj.looksAt ops->Region.waitsFor .any ops j i=true):=by
  intro i hi;have:=aET.1 h2 i (List.mem_range.2 hi);split at this
  .cases this
  .rename_i oi U
   refine⟨oi,U,λd hd=>?_⟩
   rw[hd]at this
   .simp only[bAE,Bool.not_eq_true']at this
    obtain⟨ha,hb⟩:=this;refine⟨by simpa using ha,λj W hne=>?_⟩
    have E:=aET.1 hb j (List.mem_range.2 W);simp only[Bool.or_eq_true,beq_iff_eq,hne,false_or]at E;split at E
    .cases E
    .rename_i oj J
     simp only[bAE,bne_iff_ne,ne_eq,Bool.or_eq_true,Bool.not_eq_true']at E;refine⟨oj,J,E.1,λhm=>?_⟩
     rcases E.2 with h|h
     .simp at h;exact absurd hm h
     .exact h
 refine⟨h1,λi hi=>?_,λi j d oj hi W hij hdi J=>?_,λj o e W he hb=>?_⟩
 .obtain⟨oi,a,b⟩:=hd i hi;exact⟨oi,a,λd h=>(b d h).1⟩
 .obtain⟨oi,U,hd'⟩:=hd i hi
  have hdd:oi.dst=some d:=by simpa [AH,U]using hdi
  obtain⟨_,hall⟩:=hd' d hdd;obtain⟨Z,hoj',g1,g2⟩:=hall j W (Ne.symm hij);have:Z=oj:=Option.some.inj (hoj'.symm.trans J);subst this;refine⟨g1,λhm=>?_⟩
  obtain⟨oj2,hoj2,e,he,hb,hon⟩:=Region.waitsFor_spec (g2 hm);have:oj2=Z:=Option.some.inj (hoj2.symm.trans J);subst this;exact⟨e,he,hb,hon⟩
 .have hlt:j<ops.size:=(Array.getElem?_eq_some_iff.1 W).1
  have:=aET.1 h3 j (List.mem_range.2 hlt);rw[W]at this;have:=aET.1 this e (by simpa using he)
  simp[hb]at this;exact this
theorem MD(h:HZ ops n=true):QOK ops n/\PJ ops n:=by
 simp only[HZ,bAE,Bool.or_eq_true,beq_iff_eq]at h;refine⟨Jj h.1,?_⟩;have e:=h.2;rcases e with e|⟨e,E|E⟩
 .exact .inl e
 .exact .inr ⟨e,.inl E⟩
 .obtain⟨f,J,U⟩:=List.any_eq_true.1 E
  exact .inr ⟨e,.inr ⟨f,XL (List.mem_range.1 J) U⟩⟩
def AaJ:Op->Bool
 |.fieldAddr _ _ _=>true
 |.load _ _=>true
 |.move _=>true
 |.indexAddr _ _ _=>true
 |_=>false
def flsB(ops:Array Oper)(n:Nat)(fs:List Nat):Bool:=decide (n+1<ops.size)&&Region.chainB .any ops n&&fs.all (λf=>decide (f<n)&&Region.waitsFor .any ops (n+1) f)&&
 (List.range n).all (λi=>fs.contains i||(List.range (n+1)).any λj=>decide (i<j)&& !fs.contains j&&Region.waitsFor .any ops j i)&&
 match ops[n]? with
 |some on=>on.guard.isNone&&Yo on.op&&match on.dst with
  |some dn=>fs.all λf=>match ops[f]? with
   |some o=>o.guard.isNone&&AaJ o.op&&match o.dst with
    |some d=>!(on.looksAt ops).contains d&&dn !=d&& !(o.looksAt ops).contains dn
    |none=>false
   |none=>false
  |none=>false
 |none=>false
structure FLS(ops:Array Oper)(n:Nat)(fs:List Nat):Prop where
 lt1:n+1<ops.size
 chain:Region.chainB .any ops n=true
 lt:∀f∈fs,f<n/\Region.waitsFor .any ops (n+1) f=true
 others:∀i,i<n->i∉fs->∃j,i<j/\j<=n/\j∉fs/\Region.waitsFor .any ops j i=true
 it:∃on dn,ops[n]? =some on/\on.guard=none/\on.dst=some dn/\(∀cs b,on.op≠.select cs b)/\∀f∈fs,∃o d,ops[f]? =some o/\o.guard=none/\AaJ o.op=true/\o.dst=some d/\d∉on.looksAt ops/\dn≠d/\dn∉o.looksAt ops
theorem VY{fs:List Nat}(h:flsB ops n fs=true):FLS ops n fs:=by
 unfold flsB at h;simp only[bAE,decide_eq_true_eq]at h;obtain⟨⟨⟨⟨h1,h2⟩,h3⟩,h4⟩,h5⟩:=h;refine⟨h1,h2,λf U=>?_,λi hi hn=>?_,?_⟩
 .have:=aET.1 h3 f U
  simpa using this
 .have:=aET.1 h4 i (List.mem_range.2 hi)
  rw[Bool.or_eq_true]at this;rcases this with h|h
  .exact absurd (by simpa using h) hn
  .obtain⟨j,hj,E⟩:=List.any_eq_true.1 h
   simp only[bAE,decide_eq_true_eq,Bool.not_eq_true']at E;have:=List.mem_range.1 hj;exact⟨j,E.1.1,by omega,by simpa using E.1.2,E.2⟩
 .split at h5
  case h_2=>cases h5
  rename_i on J;rw[bAE,bAE]at h5;obtain⟨⟨g1,g2⟩,h5⟩:=h5;split at h5
  case h_2=>cases h5
  rename_i dn W;refine⟨on,dn,J,by simpa using g1,W,(λcs b e=>by rw[e]at g2;cases g2),λf U=>?_⟩
  have:=aET.1 h5 f U;split at this
  case h_2=>cases this
  rename_i o ho;rw[bAE,bAE]at this;obtain⟨⟨k1,k2⟩,this⟩:=this;split at this
  case h_2=>cases this
  rename_i d hd;simp only[bAE,Bool.not_eq_true',bne_iff_ne,ne_eq]at this;obtain⟨⟨m1,Z⟩,m3⟩:=this;exact⟨o,d,ho,by simpa using k1,k2,hd,by simpa using m1,Z,by simpa using m3⟩
def IG(P:Program)(h:Cs)(ops:Array Oper)(σ:List V)(o:Oper)(t:Nat->V)(r:V)(ys:List (Nat×Tk)):Prop:=
 (alM h ops o=false/\((∃d:Nat,o.dst=some d/\
  (((d<h.n/\((o.guard=none\/∃j e,o.guard=some (j,e)/\gv t ops j=.c (.bool e))/\∃r',qop P σ (Ms.ev ⟨t,σ⟩) o.op (λx=>x=r')/\r=(if h.fz.contains d then frz r' else r'))\/
   (∃j e,o.guard=some (j,e)/\gskip (gv t ops j) e/\d<h.n/\r=udV))/\ys=[])\/
   (d<h.n/\o.guard=none/\h.fz.contains d=false/\(∀p∈ys,I6 ops o p=true)/\mq t o ys r)))\/
 (o.guard=none/\(∀p∈ys,I6 ops o p=true\/PU h ops o p=true)/\Qt o.op=true/\LQ P h.n σ (AlP h ops o) o t ys r)\/
 (∃j e,o.guard=some (j,e)/\gskip (gv t ops j) e/\o.dst=none/\ys=[])))\/
 (alM h ops o=true/\∃d,o.dst=some d/\d<h.n/\r=.dead/\ys=[])
theorem C8{g:Nat×Bool}(e:o.guard=some g):alM h ops o=false:=by
 unfold alM;grind
theorem LX(E:alM h ops o=true):o.guard=none/\∃y z,o.op=.move (.tmp y)/\o.dst=some z/\∀j,AH ops j≠some y:=by
 unfold alM at E;rw[bAE]at E;refine⟨by simp_all,?_⟩
 have J:=E.2;split at J
 .rename_i y z e hd
  simp at J;exact⟨y,z,e,hd,CE J.1.2⟩
 grind
def Cg(ops:Array Oper)(r:Nat->V)(m:Nat->List (Nat×Tk))(t:Nat->V):Nat->(Nat->V)
 |0=>t
 |i+1=>Ip (AH ops i) (r i) (AP (m i) (Cg ops r m t i))
theorem WM{P:Program}{h:Cs}{σ:List V}{t0:Nat->V}{K:(Nat->V)->Prop}(hn:n<=ops.size)(hq:QOK ops n):∀(k i:Nat) (r:Nat->V) (m:Nat->List (Nat×Tk)),i+k=n->
  vq P h ops σ ((ops.toList.drop i).take k) K (Cg ops r m t0 i)->(∀j,j<i->∀o,ops[j]? =some o->IG P h ops σ o (Cg ops r m t0 j) (r j) (m j))->
  ∃(r':Nat->V) (m':Nat->List (Nat×Tk)),(∀j,j<n->∀o,ops[j]? =some o->IG P h ops σ o (Cg ops r' m' t0 j) (r' j) (m' j))/\K (Cg ops r' m' t0 n):=by
 intro k
 induction k with
 |zero=>
  intro i r m hi J hs;obtain rfl:i=n:=by omega
  simp[vq]at J;exact⟨r,m,hs,J⟩
 |succ k ih=>
  intro i r m hi J hs;have Z:i<ops.toList.length:=by simp;omega
  rw[List.drop_eq_getElem_cons Z,List.take_succ_cons]at J;obtain⟨oi,hoi,hnl⟩:=hq.dst i (by omega)
  have hdo:AH ops i=oi.dst:=by simp[AH,hoi]
  have he:ops.toList[i]=oi:=by
   have:=hoi;rw[<-Array.getElem?_toList,gEE Z]at this;exact Option.some.inj this
  rw[he]at J
  -- go on with the value v at place i
  have go:∀v ys,IG P h ops σ oi (Cg ops r m t0 i) v ys->vq P h ops σ ((ops.toList.drop (i+1)).take k) K (Ip oi.dst v (AP ys (Cg ops r m t0 i)))->∃(r':Nat->V) (m':Nat->List (Nat×Tk)),(∀j,j<n->∀o,ops[j]? =some o->IG P h ops σ o (Cg ops r' m' t0 j) (r' j) (m' j))/\K (Cg ops r' m' t0 n):=by
   intro v ys hst J
   have same:∀j,j<=i->Cg ops (λx=>if x=i then v else r x) (λx=>if x=i then ys else m x) t0 j=Cg ops r m t0 j:=by
    intro j
    induction j with
    |zero=>intro _;rfl
    |succ j ihj=>
     intro hj;have h1:j≠i:=by omega
     simp only[Cg,ihj (by omega),h1,if_false]
   refine ih (i+1) (λx=>if x=i then v else r x) (λx=>if x=i then ys else m x) (by omega) ?_ ?_
   .have:Cg ops (λx=>if x=i then v else r x) (λx=>if x=i then ys else m x) t0 (i+1)=Ip oi.dst v (AP ys (Cg ops r m t0 i)):=by
     simp only[Cg,hdo,same i (Nat.le_refl _),if_true]
    rw[this];exact J
   .intro j hj o ho
    by_cases hji:j=i
    .subst hji
     have:o=oi:=Option.some.inj (ho.symm.trans hoi);subst this;rw[same j (Nat.le_refl _)];simpa using hst
    .rw[same j (by omega)]
     simp only[hji,if_false];exact hs j (by omega) o ho
  have go0:∀v d,oi.dst=some d->IG P h ops σ oi (Cg ops r m t0 i) v []->vq P h ops σ ((ops.toList.drop (i+1)).take k) K (AI (Cg ops r m t0 i) d v)->∃(r':Nat->V) (m':Nat->List (Nat×Tk)),(∀j,j<n->∀o,ops[j]? =some o->IG P h ops σ o (Cg ops r' m' t0 j) (r' j) (m' j))/\K (Cg ops r' m' t0 n):=
   λv d hd h1 h2=>go v [] h1 (by rw[DB,hd];exact h2)
  unfold vq at J;split at J
  .rename_i W
   have dsome:∀(K:(Nat->V)->Prop) r',QK h oi.dst (Cg ops r m t0 i) K r'->∃d,oi.dst=some d:=by
    intro K r' E;unfold QK at E;split at E
    .exact⟨_,by assumption⟩
    .exact E.elim
   rcases J with⟨hna,J|⟨ys,d,v,hd,U,hfz,hmv,hmq,J⟩|⟨ys,v,hmv,hne,hlq,J⟩⟩|⟨hal,d,hd,U,J⟩
   .obtain⟨r',E,hdet⟩:=U8 J
    obtain⟨d,hd⟩:=dsome _ _ E;rw[hd]at E;obtain⟨U,E⟩:=E;exact go0 _ d hd (.inl ⟨hna,.inl ⟨d,hd,.inl ⟨.inl ⟨U,.inl W,r',hdet,rfl⟩,rfl⟩⟩⟩) E
   .exact go v ys (.inl ⟨hna,.inl ⟨d,hd,.inr ⟨U,W,hfz,hmv,hmq⟩⟩⟩) (by rw[hd];exact J)
   .exact go v ys (.inl ⟨hna,.inr (.inl ⟨W,hmv,hne,hlq⟩)⟩) J
   .exact go0 .dead d hd (.inr ⟨hal,d,hd,U,rfl,rfl⟩) J
  .rename_i j e W
   split at J
   .rename_i b hb
    by_cases hbw:b=e
    .obtain⟨r',E,hdet⟩:=U8 (J.1 hbw)
     unfold QK at E;split at E
     case h_2=>exact E.elim
     rename_i d hd;obtain⟨U,E⟩:=E;exact go0 _ d hd (.inl ⟨C8 W,.inl ⟨d,hd,.inl ⟨.inl ⟨U,.inr ⟨j,e,W,by rw[hb,hbw]⟩,r',hdet,rfl⟩,rfl⟩⟩⟩) E
    .have hbn:b=(!e):=by cases b<;>cases e<;>simp_all
     obtain⟨Z,E⟩:=J.2 hbn;cases hd:oi.dst with
     |none=>
      rw[hd]at E;exact go .dead [] (.inl ⟨C8 W,.inr (.inr ⟨j,e,W,.inl (by rw[hb,hbn]),hd,rfl⟩)⟩) (by rw[hd];exact E)
     |some d=>
      rw[hd]at E;exact go0 udV d hd (.inl ⟨C8 W,.inl ⟨d,hd,.inl ⟨.inr ⟨j,e,W,.inl (by rw[hb,hbn]),Z d hd,rfl⟩,rfl⟩⟩⟩) E
   .obtain⟨hu,Z,E⟩:=J
    cases hd:oi.dst with
    |none=>
     rw[hd]at E;exact go .dead [] (.inl ⟨C8 W,.inr (.inr ⟨j,e,W,.inr hu,hd,rfl⟩)⟩) (by rw[hd];exact E)
    |some d=>
     rw[hd]at E;exact go0 udV d hd (.inl ⟨C8 W,.inl ⟨d,hd,.inl ⟨.inr ⟨j,e,W,.inr hu,Z d hd,rfl⟩,rfl⟩⟩⟩) E
structure MOK1(A:Nat->Prop)(ops:Array Oper)(n i:Nat)(p:Nat×Tk)(oi:Oper):Prop where
 at_:ops[i]? =some oi
 na:¬A i
 looks:p.1∈oi.looksAt ops
 one:p.2.isPart=false->∀j oj,ops[j]? =some oj->p.1∈oj.looksAt ops->j=i\/WS ops i j\/WS ops j i
 nx:p.2.isPart=false->∀y c,oi.op≠.extract y c
 part:∀c,p.2=.part c->∀j oj,j<n->ops[j]? =some oj->p.1∈oj.looksAt ops->oj.guard=none/\∃c',oj.op=.extract (.tmp p.1) c'/\(j≠i->c'≠c)
 edge:(∃e∈oi.after,Region.binds .any e=true/\AH ops e.on=some p.1)\/(p.2.isPart=false/\∀j,AH ops j≠some p.1)
structure MOKA(A:Nat->Prop)(B:Nat->Nat->Prop)(ops:Array Oper)(n i:Nat)(p:Nat×Tk)(oi:Oper):Prop where
 at_:ops[i]? =some oi
 put:p.2.isPart=false
 nd:∀j,AH ops j≠some p.1
 us:B i p.1
 one:∀j,B j p.1->j=i\/WS ops i j\/WS ops j i
 look:∀j oj,ops[j]? =some oj->p.1∈oj.looksAt ops->A j
def MOK(A:Nat->Prop)(B:Nat->Nat->Prop)(ops:Array Oper)(n:Nat)(m:Nat->List (Nat×Tk)):Prop:=∀i,i<n->∀p∈m i,∃oi,MOK1 A ops n i p oi\/MOKA A B ops n i p oi
def isA(h:Cs)(ops:Array Oper)(i:Nat):Prop:=∃o,ops[i]? =some o/\alM h ops o=true
def isB(h:Cs)(ops:Array Oper)(i x:Nat):Prop:=i∈alU h ops x
theorem le_one{α:Type}{l:List α}(h:l.length<=1){a b:α}(E:a∈l)(e:b∈l):a=b:=by
 match l,h with
 |[c],_=>grind
theorem Hc{ops:Array Oper}{oi:Oper}{y:Nat}(J:(oi.after.toList.any λe=>Region.binds .any e&&(match AH ops e.on with
 |some d=>Nat.beq d y
 |none=>false))=true):∃e∈oi.after,Region.binds .any e=true/\AH ops e.on=some y:=by
 obtain⟨e,U,E⟩:=List.any_eq_true.1 J;rw[bAE]at E;refine⟨e,by grind,E.1,?_⟩
 have:=E.2;split at this
 .simp_all
 grind
theorem Yq{P:Program}{h:Cs}{σ:List V}{t0 r:Nat->V}{m:Nat->List (Nat×Tk)}(hq:QOK ops n)
  (hst:∀j,j<n->∀o,ops[j]? =some o->IG P h ops σ o (Cg ops r m t0 j) (r j) (m j)):MOK (isA h ops) (isB h ops) ops n m:=by
 intro i hi p hp;obtain⟨oi,U,_⟩:=hq.dst i hi;have hdo:AH ops i=oi.dst:=by simp[AH,U]
 have E:¬isA h ops i/\(I6 ops oi p=true\/PU h ops oi p=true)/\(p.2.isPart=false->∀y c,oi.op≠.extract y c):=by
  rcases hst i hi oi U with⟨hna,hs⟩|⟨_,_,_,_,_,he⟩
  rotate_left
  .rw[he]at hp;cases hp
  refine⟨fun⟨o',ho',hal⟩=>?_,?_⟩
  .obtain rfl:o'=oi:=Option.some.inj (ho'.symm.trans U)
   rw[hna]at hal;cases hal
  rcases hs with⟨_,_,⟨_,he⟩|⟨_,_,_,E,hmq⟩⟩|⟨_,E,hne,_⟩|⟨_,_,_,_,_,he⟩
  .rw[he]at hp;cases hp
  .refine⟨.inl (E p hp),λhpt y c hop=>?_⟩
   rcases hmq with⟨z,hz,_⟩|⟨z,c',n',f,_,hys,_⟩
   .rcases hz with hz|hz<;>(rw[hop]at hz;cases hz)
   .rw[hys,List.mem_singleton]at hp
    rw[hp]at hpt;cases hpt
  .exact⟨E p hp,λ_ y c hop=>by rw[hop]at hne;cases hne⟩
  .rw[he]at hp;cases hp
 obtain⟨hna,E,hnx⟩:=E;rcases E with E|E
 rotate_left
 .unfold PU at E
  simp only[bAE,Bool.not_eq_true']at E;obtain⟨⟨⟨⟨h1,h2⟩,h3⟩,h4⟩,h5⟩:=E;have hin:∀j oj,ops[j]? =some oj->alB h ops oj p.1=true->j∈alU h ops p.1:=by
   intro j oj J hb;unfold alU;rw[List.mem_filter,List.mem_range];refine⟨(Array.getElem?_eq_some_iff.1 J).1,?_⟩;rw[J];exact hb
  refine⟨oi,.inr ⟨U,h1,CE h3,hin i oi U h2,λj hj=>?_,λj oj J hl=>?_⟩⟩
  .have hp:=JJ hq.back h4 λk hk=>by
    have hk:=List.mem_range.1 (List.mem_filter.1 hk).1;exact⟨ops[k],by simp[hk]⟩
   obtain⟨a,ha,ea⟩:=List.getElem_of_mem (hin i oi U h2);obtain⟨b,hb',eb⟩:=List.getElem_of_mem (show j∈alU h ops p.1 from hj)
   rcases Nat.lt_trichotomy a b with hlt|heq|hlt
   .have:=List.pairwise_iff_getElem.1 hp a b ha hb' hlt
    rw[ea,eb]at this;exact .inr (.inr this)
   .subst heq
    exact .inl (eb.symm.trans ea)
   .have:=List.pairwise_iff_getElem.1 hp b a hb' ha hlt
    rw[ea,eb]at this;exact .inr (.inl this)
  .have:=aET.1 h5 j (List.mem_range.2 (Array.getElem?_eq_some_iff.1 J).1)
   rw[J]at this;simp only[Bool.or_eq_true,Bool.not_eq_true']at this;rcases this with h6|h6
   .have:(oj.looksAt ops).contains p.1=true:=by simpa using hl
    rw[h6]at this;cases this
   .exact⟨oj,J,h6⟩
 obtain⟨y,tk⟩:=p
 have wholeC:mvC ops oi y=true->tk.isPart=false->∃oi,MOK1 (isA h ops) ops n i (y,tk) oi\/MOKA (isA h ops) (isB h ops) ops n i (y,tk) oi:=by
  intro E Z;unfold mvC at E;rw[bAE,bAE]at E;have h1:y∈oi.looksAt ops:=by simpa using E.1.1
  exact⟨oi,.inl ⟨U,hna,h1,λ_ j oj J W=>QT hq.back E.2 U h1 J W,hnx,(λc hc=>by have hc:tk=.part c:=hc;rw[hc]at Z;cases Z),.inr ⟨Z,CE E.1.2⟩⟩⟩
 have whole:mvB ops oi y=true\/mvR ops oi y=true->tk.isPart=false->∃oi,MOK1 (isA h ops) ops n i (y,tk) oi\/MOKA (isA h ops) (isB h ops) ops n i (y,tk) oi:=by
  intro E Z
  obtain⟨h1,h2,h3⟩:(oi.looksAt ops).contains y=true/\Xl ops y=true/\((∃e∈oi.after,Region.binds .any e=true/\AH ops e.on=some y)\/(tk.isPart=false/\∀j,AH ops j≠some y)):=by
   rcases E with E|E
   .unfold mvB at E
    rw[bAE,bAE]at E;exact⟨E.1.1,E.1.2,.inl (Hc E.2)⟩
   .unfold mvR at E
    rw[bAE,bAE]at E;exact⟨E.1.1,E.1.2,.inr ⟨Z,CE E.2⟩⟩
  have h1:y∈oi.looksAt ops:=by simpa using h1
  refine⟨oi,.inl ⟨U,hna,h1,λ_ j oj J W=>.inl ?_,hnx,(λc hc=>by have hc:tk=.part c:=hc;rw[hc]at Z;cases Z),h3⟩⟩
  unfold Xl at h2;have h2:=of_decide_eq_true h2
  have hin:∀k ok,ops[k]? =some ok->y∈ok.looksAt ops->k∈(List.range ops.size).filter λj=>match ops[j]? with
    |some o=>(o.looksAt ops).contains y
    |none=>false:=by
   intro k ok hk hyk;rw[List.mem_filter,List.mem_range];refine⟨(Array.getElem?_eq_some_iff.1 hk).1,?_⟩;rw[hk];simpa using hyk
  exact le_one h2 (hin j oj J W) (hin i oi U h1)
 unfold I6 at E;cases tk with
 |all=>exact whole (.inl E) rfl
 |put v=>
  have E:(mvB ops oi y||mvR ops oi y||mvC ops oi y)=true:=E;rw[Bool.or_eq_true,Bool.or_eq_true]at E;exact E.elim (λh=>whole h rfl) λh=>wholeC h rfl
 |part c=>
  have E:exB ops oi y c=true:=E;unfold exB at E;rw[bAE,bAE]at E;obtain⟨⟨h1,h2⟩,h3⟩:=E;have h1:y∈oi.looksAt ops:=by simpa using h1
  refine⟨oi,.inl ⟨U,hna,h1,(λhc=>by cases hc),(λhc=>by cases hc),λc0 hc j oj hj J W=>?_,.inl (Hc h3)⟩⟩
  cases hc;have hown:=aET.1 h2 i (List.mem_range.2 (Array.getElem?_eq_some_iff.1 U).1);have:=aET.1 h2 j (List.mem_range.2 (Array.getElem?_eq_some_iff.1 J).1);rw[J]at this;simp only[Bool.or_eq_true,Bool.not_eq_true',bAE]at this;rcases this with h4|⟨h4,h5⟩
  .have W:y∈oj.looksAt ops:=W
   have:(oj.looksAt ops).contains y=true:=by simpa using W
   rw[h4]at this;cases this
  .refine⟨by simpa using h4,?_⟩
   split at h5
   case h_2=>cases h5
   rename_i y' c' hop;simp only[bAE,Bool.or_eq_true,Bool.not_eq_true',beq_iff_eq]at h5;obtain⟨h6,h7⟩:=h5;have h6:=bqE h6;subst h6;refine⟨c',hop,λhji hcc=>?_⟩
   rcases h7 with h7|h7
   .rw[hcc,Nat.beq_refl]at h7;cases h7
   .cases hdi:oi.dst with
    |some d=>exact(hq.ne i j d oj hi hj (Ne.symm hji) (hdo.trans hdi) J).1 (h7.trans hdi)
    |none=>
     rcases hst i hi oi U with⟨_,⟨d,hd,_⟩|⟨_,_,hne,_⟩|⟨_,_,_,_,_,he⟩⟩|⟨_,d,hd,_⟩
     .rw[hdi]at hd;cases hd
     rotate_left
     .rw[he]at hp;cases hp
     .rw[hdi]at hd;cases hd
     .rw[U]at hown
      simp only[Bool.or_eq_true,Bool.not_eq_true',bAE]at hown;rcases hown with h8|⟨_,h8⟩
      .have:(oi.looksAt ops).contains y'=true:=by simpa using h1
       rw[h8]at this;cases this
      .split at h8
       .rename_i hop';rw[hop']at hne;cases hne
       .cases h8
def apS(S:Nat->Bool)(m:Nat->List (Nat×Tk))(x:Nat)(v:V):Nat->V
 |0=>v
 |n+1=>if S n=true then HR (Bf (m n) x) (apS S m x v n)else apS S m x v n
def HP{S:Nat->Bool}{m:Nat->List (Nat×Tk)}{x:Nat}{v:V}:∀n,(∀i,i<n->S i=true->Bf (m i) x=none)->apS S m x v n=v
 |0,_=>rfl
 |n+1,h=>by
  unfold apS;rw[HP n λi e=>h i (by omega)]
  split
  .rename_i hs;rw[h n (by simp) hs];rfl
  rfl
def Cr{S S':Nat->Bool}{m:Nat->List (Nat×Tk)}{x:Nat}{v:V}:∀n,(∀i,i<n->S i=S' i)->apS S m x v n=apS S' m x v n
 |0,_=>rfl
 |n+1,h=>by
  unfold apS;rw[Cr n λi e=>h i (by omega),h n (by simp)]
def JR{S S':Nat->Bool}{m:Nat->List (Nat×Tk)}{x j:Nat}{v:V}(U:S j=false)(J:S' j=true)(e:∀i,i≠j->S' i=S i):∀n,(∀i,i<n->j<i->S i=true->∀u,HR (Bf (m i) x) (HR (Bf (m j) x) u)=HR (Bf (m j) x) (HR (Bf (m i) x) u))->j<n->apS S' m x v n=HR (Bf (m j) x) (apS S m x v n)
 |0,_,h=>by omega
 |n+1,hc,h=>by
  unfold apS;by_cases E:j=n
  .subst E
   rw[if_pos J,U,Cr (S':=S) j λi W=>e i (by omega)]
   simp
  .rw[JR U J e n (λi W=>hc i (by omega)) (by omega),e n (Ne.symm E)]
   grind
def EqC(c:Nat)(v v':V):Prop:=v=v'\/∃e n f g,v=.many e n f/\v'=.many e n g/\f c=g c
theorem EqC.symm{c:Nat}{v v':V}(h:EqC c v v'):EqC c v' v:=by
 rcases h with rfl|⟨e,n,f,g,U,J,E⟩
 .exact .inl rfl
 .exact .inr ⟨e,n,g,f,J,U,E.symm⟩
theorem EqC.trans{c:Nat}{v v' e:V}(h:EqC c v v')(h':EqC c v' e):EqC c v e:=by
 rcases h with rfl|⟨W,n,f,g,h1,h2,Z⟩
 .omega
 .rcases h' with rfl|⟨tg',n',f',g',E,U,J⟩
  .exact .inr ⟨W,n,f,g,h1,h2,Z⟩
  .rw[h2]at E
   cases E;exact .inr ⟨W,n,f,g',h1,U,Z.trans J⟩
theorem EqC.kill{c c':Nat}(h:c'≠c)(v:V):EqC c v (Ng c' v):=by
 cases v<;>try exact .inl rfl
 exact .inr ⟨_,_,_,_,rfl,rfl,by grind⟩
theorem Wm{S:Nat->Bool}{m:Nat->List (Nat×Tk)}{x c:Nat}{v:V}:∀n,(∀i,i<n->S i=true->∀e,Bf (m i) x=some e->∃c',e=.part c'/\c'≠c)->EqC c v (apS S m x v n)
 |0,_=>.inl rfl
 |n+1,h=>by
  have E:=Wm (v:=v) n λi W=>h i (by omega)
  unfold apS;split
  .rename_i hs
   cases J:Bf (m n) x with
   |none=>trivial
   |some e=>
    obtain⟨c',rfl,U⟩:=h n (by simp) hs e J
    exact E.trans (EqC.kill U _)
  grind
def CD(ops:Array Oper)(n x:Nat):Option Nat:=(List.range n).find? λi=>AH ops i==some x
theorem Bd(h:CD ops n x=some i):i<n/\AH ops i=some x:=by
 unfold CD at h
 grind
theorem Kr(h:CD ops n x=none):∀i,i<n->AH ops i≠some x:=by
 unfold CD at h
 grind
theorem Lo(U:QOK ops n)(E:i<n)(h:AH ops i=some x):CD ops n x=some i:=by
 cases W:CD ops n x with
 |none=>exact absurd h (Kr W i E)
 |some j=>
  obtain⟨Z,J⟩:=Bd W;by_cases he:j=i
  .grind
  .obtain⟨oi,e,_⟩:=U.dst i E
   have:=(U.ne j i x oi Z E he J e).1;simp[AH,e]at h
   grind
def Dd(W:QOK ops n)(hm:MOK A B ops n m){tk:Tk}(hi:i<n)(h:Bf (m i) x=some tk):CD ops n x=none\/∃k,CD ops n x=some k/\k<i/\∃oi,ops[i]? =some oi/\∃e∈oi.after,Region.binds .any e=true/\e.on=k:=by
 obtain⟨oi,E⟩:=hm i hi _ (CG h);rcases E with E|E
 rotate_left
 .left
  cases hw:CD ops n x with
  |none=>rfl
  |some k=>exact absurd (Bd hw).2 (E.nd k)
 rcases E.edge with⟨e,Z,hb,hd⟩|⟨_,J⟩
 rotate_left
 .left
  cases E:CD ops n x with
  |none=>rfl
  |some k=>exact absurd (Bd E).2 (J k)
 right;have U:=W.back i oi e E.at_ Z hb;exact⟨e.on,Lo W (by omega) hd,U,oi,E.at_,e,Z,hb,rfl⟩
theorem Pl(J:MOK A B ops n m)(hi:i<n)(W:j<n)(Z:i≠j)(h1:¬WS ops i j)(U:¬WS ops j i)(u:V):HR (Bf (m i) x) (HR (Bf (m j) x) u)=HR (Bf (m j) x) (HR (Bf (m i) x) u):=by
 refine VI _ _ _ λa b ha hb=>?_
 obtain⟨oi,E⟩:=J i hi _ (CG ha);obtain⟨oj,e⟩:=J j W _ (CG hb);rcases E with E|E
 rotate_left
 .rcases e with e|e
  .exact absurd (E.look j oj e.at_ e.looks) e.na
  .rcases E.one j e.us with h3|h3|h3<;>first|omega|exact absurd h3 h1|exact absurd h3 U
 rcases e with e|e
 rotate_left
 .exact absurd (e.look i oi E.at_ E.looks) E.na
 refine⟨?_,?_⟩
 .cases h:a.isPart with
  |true=>rfl
  |false=>rcases E.one h j oj e.at_ e.looks with h3|h3|h3<;>first|grind|rfl|rfl
 .cases h:b.isPart with
  |true=>rfl
  |false=>rcases e.one h i oi E.at_ E.looks with h3|h3|h3<;>first|grind|rfl|exact absurd h3 U
def pt(ops:Array Oper)(n:Nat)(r:Nat->V)(m:Nat->List (Nat×Tk))(t0:Nat->V)(listed:Array Bool)(x:Nat):V:=
 match CD ops n x with
 |some k=>if listed.getD k false then apS (λi=>listed.getD i false) m x (r k) n else .dead
 |none=>apS (λi=>listed.getD i false) m x (t0 x) n
theorem Hp(hq:QOK ops n)(hm:MOK A B ops n m)(r t0:Nat->V)(x:Nat):∀j,j<=n->Cg ops r m t0 j x=match CD ops n x with
  |some k=>if k<j then apS (λi=>decide (i<j)) m x (r k) n else t0 x
  |none=>apS (λi=>decide (i<j)) m x (t0 x) n:=by
 intro j
 induction j with
 |zero=>
  intro _;cases CD ops n x with
  |none=>exact(HP n λi _ hs=>by simp at hs).symm
  |some k=>simp[Cg]
 |succ j ih=>
  intro hj;obtain⟨oj,hoj,_⟩:=hq.dst j (by omega)
  have hdo:AH ops j=oj.dst:=by simp[AH,hoj]
  have other:AH ops j≠some x->Cg ops r m t0 (j+1) x=match CD ops n x with
    |some k=>if k<j+1 then apS (λi=>decide (i<j+1)) m x (r k) n else t0 x
    |none=>apS (λi=>decide (i<j+1)) m x (t0 x) n:=by
   intro U
   have e:Cg ops r m t0 (j+1) x=AP (m j) (Cg ops r m t0 j) x:=by
    show Ip (AH ops j) (r j) (AP (m j) (Cg ops r m t0 j)) x=_;cases hd:AH ops j with
    |none=>rfl
    |some d=>
     show AI _ d _ x=_;unfold AI;rw[if_neg]
     rintro rfl
     exact U hd
   rw[e];unfold AP;rw[ih (by omega)]
   cases J:CD ops n x with
   |none=>
    exact(JR (by simp) (by simp) (λi hi=>by
      simp only[decide_eq_decide];omega) n (λi _ hij hs=>absurd (of_decide_eq_true hs) (by omega)) (by omega)).symm
   |some k=>
    have hkj:k≠j:=by
     rintro rfl
     exact U (Bd J).2
    simp only;by_cases W:k<j
    .rw[if_pos W,if_pos (by omega)]
     exact(JR (by simp) (by simp) (λi hi=>by
      simp only[decide_eq_decide];omega) n (λi _ hij hs=>absurd (of_decide_eq_true hs) (by omega)) (by omega)).symm
    .rw[if_neg W,if_neg (by omega)]
     cases hl:Bf (m j) x with
     |none=>rfl
     |some tk=>
      rcases Dd hq hm (by omega:j<n) hl with E|⟨k',E,hkj',_⟩
      .rw[J]at E;cases E
      .rw[J]at E;cases E;omega
  by_cases U:AH ops j=some x
  .have J:=Lo hq (by omega:j<n) U
   have e:Cg ops r m t0 (j+1) x=r j:=by
    show Ip (AH ops j) (r j) (AP (m j) (Cg ops r m t0 j)) x=_;rw[U];show AI _ x _ x=_;unfold AI;rw[if_pos rfl]
   rw[e,J];simp only[Nat.lt_succ_self,if_true];refine(HP n λi hi hs=>?_).symm
   cases hl:Bf (m i) x with
   |none=>rfl
   |some tk=>
    rcases Dd hq hm hi hl with Z|⟨k,Z,hki,_⟩
    .rw[J]at Z;cases Z
    rw[J]at Z;cases Z;have:=of_decide_eq_true hs;omega
  .exact other U
theorem PR.ev{C:Ctx}{N:Nat}{σ:List V}{ρ:Nat->Value}{F:Nat->Nat->Prop}{t:Nat->V}{a:Act}{w:World}{D:Nat->Prop}{T:Nat->Nat->Prop}(h:PR C N σ ρ F t a w D T)(x:Operand):OpR σ w D ρ F (Ms.ev ⟨t,σ⟩ x) (a.eval x):=by
 have plain:∀v cv,Rel D w (Au σ ρ w) v cv noF->OpR σ w D ρ F v cv:=λv cv E=>⟨noF,E,λ_ h=>h.elim,λ_ _ _ h=>h⟩
 cases x with
 |tmp y=>
  by_cases e:y<N
  .exact⟨T y,h.tm y e,h.tD y,λi b J=>h.tF i y b J⟩
  .refine plain _ _ ?_
   show Rel D w _ (t y) _ noF;rw[h.dd y (Nat.le_of_not_lt e)];exact λ_ h=>h
 |const v=>exact plain _ _ (Ii v)
 |global g=>exact plain _ _ ⟨rfl,rfl,λ_ h=>h⟩
 |func f=>exact plain _ _ Oy
theorem PR.gvN(h:PR C N σ ρ F t a w D T)(e:Go.Ve.gv t ops j=udV):yielded ops a.tmps j=none:=by
 unfold Go.Ve.gv at e;split at e
 .rename_i d hd
  have E:d<N:=by
   rcases Nat.lt_or_ge d N with h'|h'
   .grind
   .rw[h.dd d h']at e;cases e
  have U:=h.tm d E;rw[e]at U;obtain⟨cs,_,J,_⟩:=U;have W:d<a.tmps.size:=by rw[h.sz];omega
  have Z:a.tmps[d]? =some (.tuple cs):=by
   simp[W]at J⊢
   trivial
  unfold yielded
  grind
 trivial
theorem PR.gv{C:Ctx}{N:Nat}{σ:List V}{ρ:Nat->Value}{F:Nat->Nat->Prop}{t:Nat->V}{a:Act}{w:World}{D:Nat->Prop}{T:Nat->Nat->Prop}(h:PR C N σ ρ F t a w D T){ops:Array Oper}{j:Nat}{b:Bool}(e:Go.Ve.gv t ops j=.c (.bool b)):yielded ops a.tmps j=some b:=by
 unfold Go.Ve.gv at e;split at e
 .rename_i d hd
  have E:d<N:=by
   rcases Nat.lt_or_ge d N with h'|h'
   .omega
   .rw[h.dd d h']at e;grind
  have J:=h.tm d E;rw[e]at J;have W:d<a.tmps.size:=by rw[h.sz];grind
  have U:a.tmps[d]? =some (.bool b):=by
   have:=J.1
   simp_all
  unfold yielded
  grind
 grind
theorem PR.put{C:Ctx}{N:Nat}{σ:List V}{ρ:Nat->Value}{F:Nat->Nat->Prop}{t:Nat->V}{a:Act}{w w':World}{D D':Nat->Prop}{T:Nat->Nat->Prop}(h:PR C N σ ρ F t a w D T){r:V}{v':Value}{fp:Nat->Prop}{d:Nat}(hB:Below w.heap.size w w')(hr:Rel D' w' (Au σ ρ w') r v' fp)
  (hf:∀b,fp b->w.heap.size<=b) (hd1:∀b,D b->D' b) (hd2:∀b,D' b->D b\/w.heap.size<=b) (hd3:∀b,D' b->b<w'.heap.size/\¬fp b) (hdn:d<N):
  PR C N σ ρ F (AI t d r) (a.put (some d) v') w' D' (λx=>if x=d then fp else T x):=by
 have U:∀i b,F i b->b<w.heap.size:=h.wr.lt;have E:∀x b,T x b->b<w.heap.size:=by
  intro x b e;by_cases W:x<N
  .exact Rel.lt _ _ _ (h.tm x W) b e
  .exact absurd e (h.tx x b (Nat.le_of_not_lt W))
 have wr':BG σ w' D' ρ F:=by
  have Z:=h.wr.below hB;refine⟨λi hi=>Rel.mono hd1 (λ_ _ h=>h) _ _ _ (λ_ _=>rfl) (Z.rel i hi),Z.disj,λi b e hD=>?_,λb e=>(hd3 b e).1,Z.out⟩
  rcases hd2 b hD with J|J
  .exact Z.dD i b e J
  .have:=U i b e;omega
 refine⟨h.df,by rw[BU];simpa using h.sz,λx W=>?_,wr',λx W=>?_,λx b e=>?_,λi x b e hT=>?_,λx y b hxy Z J=>?_,λx b e=>?_,h.fr.below hB,h.Fn,λb e=>hd1 b (h.D1 b e),λb e hlt=>?_,h.rt,h.ml,λx b W e=>?_⟩
 .have:¬x=d:=by omega
  simp only[AI,this,if_false];exact h.dd x W
 .have hlt:x<a.tmps.size:=by rw[h.sz];exact W
  rw[BU];by_cases he:x=d
  .subst he
   simp only[AI,if_true];simpa [hlt]using hr
  .simp only[AI,he,if_false]
   rw[Array.getD_eq_getD_getElem?,Array.getElem?_setIfInBounds_ne (Ne.symm he),<-Array.getD_eq_getD_getElem?];refine Rel.mono hd1 (λv cv hv=>Au.same h.wr (λi b e=>hB.block b (U i b e)) v cv hv) _ _ _ (λb e=>hB.block b ?_) (h.tm x W)
   exact e.elim (h.wr.Dlt b) (E x b)
 .split at e
  .exact λhD=>(hd3 b hD).2 e
  .intro hD
   rcases hd2 b hD with J|J
   .exact h.tD x b e J
   .have:=E x b e;omega
 .split at hT
  .have:=U i b e;have:=hf b hT;omega
  .exact h.tF i x b e hT
 .split at Z<;>split at J
  .omega
  .have:=hf b Z;have:=E y b J;omega
  .have:=hf b J;have:=E x b Z;omega
  .exact h.tT x y b hxy Z J
 .split at e
  .exact .inr (Nat.le_trans h.fr.size (hf b e))
  .exact h.tn x b e
 .rcases hd2 b e with J|J
  .exact h.D2 b J hlt
  .have:=h.fr.size;omega
 .have:¬x=d:=by omega
  simp only[this,if_false]at e;exact h.tx x b W e
theorem PR.move{w':World}{D':Nat->Prop}(h:PR C N σ ρ F t a w D T){r:V}{v':Value}{d:Nat}{t1:Nat->V}{T1:Nat->Nat->Prop}(g1:∀x,x<N->Rel D w (Au σ ρ w) (t1 x) (a.tmps.getD x undef) (T1 x))(g2:∀x b,T1 x b->T x b)(g3:∀x,N<=x->t1 x=.dead)(hB:Below w.heap.size w w')(hr:Rel D' w' (Au σ ρ w') r v' fp)
  (hf:∀b,fp b->(∃y,T y b/\∀x,¬T1 x b)\/w.heap.size<=b) (hd1:∀b,D b->D' b) (hd2:∀b,D' b->D b\/w.heap.size<=b) (hd3:∀b,D' b->b<w'.heap.size/\¬fp b) (hdn:d<N):
  PR C N σ ρ F (AI t1 d r) (a.put (some d) v') w' D' (λx=>if x=d then fp else T1 x):=by
 have U:∀i b,F i b->b<w.heap.size:=h.wr.lt;have J:∀x b,T x b->b<w.heap.size:=by
  intro x b e;by_cases W:x<N
  .exact Rel.lt _ _ _ (h.tm x W) b e
  .exact absurd e (h.tx x b (Nat.le_of_not_lt W))
 have wr':BG σ w' D' ρ F:=by
  have Z:=h.wr.below hB;refine⟨λi hi=>Rel.mono hd1 (λ_ _ h=>h) _ _ _ (λ_ _=>rfl) (Z.rel i hi),Z.disj,λi b e hD=>?_,λb e=>(hd3 b e).1,Z.out⟩
  rcases hd2 b hD with E|E
  .exact Z.dD i b e E
  .have:=U i b e;omega
 refine⟨h.df,by rw[BU];simpa using h.sz,λx W=>?_,wr',λx W=>?_,λx b e=>?_,λi x b e hT=>?_,λx y b hxy Z E=>?_,λx b e=>?_,h.fr.below hB,h.Fn,λb e=>hd1 b (h.D1 b e),λb e hlt=>?_,h.rt,h.ml,λx b W e=>?_⟩
 .have:¬x=d:=by omega
  simp only[AI,this,if_false];exact g3 x W
 .have hlt:x<a.tmps.size:=by rw[h.sz];exact W
  rw[BU];by_cases he:x=d
  .subst he
   simp only[AI,if_true];simpa [hlt]using hr
  .simp only[AI,he,if_false]
   rw[Array.getD_eq_getD_getElem?,Array.getElem?_setIfInBounds_ne (Ne.symm he),<-Array.getD_eq_getD_getElem?];refine Rel.mono hd1 (λv cv hv=>Au.same h.wr (λi b e=>hB.block b (U i b e)) v cv hv) _ _ _ (λb e=>hB.block b ?_) (g1 x W)
   exact e.elim (h.wr.Dlt b) λh'=>J x b (g2 x b h')
 .split at e
  .exact λhD=>(hd3 b hD).2 e
  .intro hD
   rcases hd2 b hD with E|E
   .exact h.tD x b (g2 x b e) E
   .have:=J x b (g2 x b e);omega
 .split at hT
  .rcases hf b hT with⟨y,hy,_⟩|E
   .exact h.tF i y b e hy
   .have:=U i b e;omega
  .exact h.tF i x b e (g2 x b hT)
 .have one:∀x,fp b->T1 x b->False:=by
   intro x h3 h4;rcases hf b h3 with⟨z,_,h5⟩|h5
   .exact h5 x h4
   .have:=J x b (g2 x b h4);omega
  split at Z<;>split at E
  .omega
  .exact one y Z E
  .exact one x E Z
  .exact h.tT x y b hxy (g2 x b Z) (g2 y b E)
 .split at e
  .rcases hf b e with⟨y,hy,_⟩|E
   .exact h.tn y b hy
   .exact .inr (Nat.le_trans h.fr.size E)
  .exact h.tn x b (g2 x b e)
 .rcases hd2 b e with E|E
  .exact h.D2 b E hlt
  .have:=h.fr.size;omega
 .have:¬x=d:=by omega
  simp only[this,if_false]at e;exact h.tx x b W (g2 x b e)
end Go.Ve


namespace Go.Ve
variable{a:Act}{K K':Act->World->Prop}{listed:Array Bool}{Q Q0:Exit->Act->World->Prop}{N c d f i x y:Nat}{D:Nat->Prop}{o oi:Oper}{dst:Option Nat}{u v:Value}{w:World}
def Below.drew(w:World):Below w.heap.size w {w with drawn:=w.drawn+1}:=
 ⟨rfl,rfl,rfl,Nat.le_refl _,λ_ _=>rfl,Nat.le_succ _⟩
theorem BJ(h:dst≠some x):(a.put dst u).tmps[x]? =a.tmps[x]?:=by
 cases dst with
 |none=>rfl
 |some e=>
  show(a.tmps.setIfInBounds e u)[x]? =_
  grind
section
def OH(ops:Array Oper)(n:Nat)(X:Nat->Prop)(x:Nat):Prop:=(∃i,i<n/\AH ops i=some x)\/X x
variable {X A:Nat->Prop}{B:Nat->Nat->Prop}{P:Program}{C:Ctx}{h:Cs}{ops:Array Oper}{σ:List V}{ρ:Nat->Value}{F:Nat->Nat->Prop}{t0 r:Nat->V}{m:Nat->List (Nat×Tk)}{n:Nat}
theorem pt_set(hq:QOK ops n)(hm:MOK A B ops n m)(W:HeadInv .any ops n listed)(hi:i<n)(hr:i∈Region.ready .any ops listed):
  pt ops n r m t0 (listed.setIfInBounds i true)=Ip (AH ops i) (r i) (AP (m i) (pt ops n r m t0 listed)):=by
 have hl:=W.size;have hii:i<listed.size:=by rw[hl];exact Nat.lt_of_lt_of_le hi hq.le
 obtain⟨E,o2,ho2,hall⟩:=mem_ready.1 hr;have E:=getD_both E;have eI:(listed.setIfInBounds i true).getD i false=true:=by simp[hii]
 funext x
 by_cases hx:AH ops i=some x
 .have e:Ip (AH ops i) (r i) (AP (m i) (pt ops n r m t0 listed)) x=r i:=by
   rw[hx];show AI _ x _ x=_;unfold AI;rw[if_pos rfl]
  rw[e];have ho:=Lo hq hi hx;unfold pt;rw[ho];simp only;rw[if_pos eI];refine HP n λj Z hs=>?_
  cases hc:Bf (m j) x with
  |none=>rfl
  |some tk=>
   rcases Dd hq hm Z hc with hk|⟨k,hk,hkj,oj,hoj,e,he,hb,hon⟩
   .rw[ho]at hk;cases hk
   rw[ho]at hk;cases hk;rw[getD_set_ne false (by omega)]at hs
   have:=W.closed j oj hoj hs e he hb;rw[hon,E]at this;cases this
 .have e:Ip (AH ops i) (r i) (AP (m i) (pt ops n r m t0 listed)) x=AP (m i) (pt ops n r m t0 listed) x:=by
   cases hd:AH ops i with
   |none=>rfl
   |some d=>
    show AI _ d _ x=_;unfold AI;rw[if_neg]
    rintro rfl
    exact hx hd
  rw[e];unfold AP pt;cases ho:CD ops n x with
  |none=>
   exact JR (S:=λi=>listed.getD i false) E eI (λj Z=>getD_set_ne false (Ne.symm Z)) n (λj Z hij hs u=>Pl hm Z hi (by omega) (λh=>by have:=h.listed W.closed hs;rw[E]at this;cases this) (λh=>absurd h.1 (by omega)) u) hi
  |some k=>
   have hne:i≠k:=by
    rintro rfl
    exact hx (Bd ho).2
   simp only;rw[getD_set_ne false hne];by_cases J:listed.getD k false=true
   .rw[if_pos J,if_pos J]
    exact JR (S:=λi=>listed.getD i false) E eI (λj Z=>getD_set_ne false (Ne.symm Z)) n (λj Z hij hs u=>Pl hm Z hi (by omega) (λh=>by have:=h.listed W.closed hs;rw[E]at this;cases this) (λh=>absurd h.1 (by omega)) u) hi
   .rw[if_neg J,if_neg J]
    cases hc:Bf (m i) x with
    |none=>rfl
    |some tk=>
     rcases Dd hq hm hi hc with U|⟨k',U,hki,oi,hoi,e,he,hb,hon⟩
     .rw[ho]at U;cases U
     rw[ho]at U;cases U;obtain rfl:oi=o2:=Option.some.inj (hoi.symm.trans ho2);have:=hall e he hb;rw[hon]at this;exact absurd this J
theorem DQ{S S':Nat->Bool}{x:Nat}{v:V}:∀n,(∀i,i<n->Bf (m i) x≠none->S i=S' i)->apS S m x v n=apS S' m x v n
 |0,_=>rfl
 |n+1,h=>by
  unfold apS;rw[DQ n λi J=>h i (by omega)]
  cases E:Bf (m n) x with
  |none=>
   have:∀b,(if b=true then HR none (apS S' m x v n)else apS S' m x v n)=apS S' m x v n:=by
    intro b;cases b<;>rfl
   simp_all
  |some e=>grind
theorem Wr(hq:QOK ops n)(hm:MOK A B ops n m)(inv:HeadInv .any ops n listed)(J:ops[i]? =some oi)(hi:i<n)(hr:i∈Region.ready .any ops listed)(hna:¬A i)(hx:x∈oi.looksAt ops):
  Cg ops r m t0 i x=pt ops n r m t0 listed x\/(oi.guard=none/\∃c,oi.op=.extract (.tmp x) c/\EqC c (Cg ops r m t0 i x) (pt ops n r m t0 listed x)):=by
 rw[Hp hq hm r t0 x i (Nat.le_of_lt hi)];unfold pt
 have hm1:∀j,j<n->∀W,Bf (m j) x=some W->∃oj,MOK1 A ops n j (x,W) oj:=by
  intro j hj W hl;obtain⟨oj,ok|ok⟩:=hm j hj _ (CG hl)
  .exact⟨oj,ok⟩
  .exact absurd (ok.look i oi J hx) hna
 have one:∀j,j<n->∀W,Bf (m j) x=some W->W.isPart=false->decide (j<i)=listed.getD j false:=by
  intro j hj W hl E;obtain⟨oj,ok⟩:=hm1 j hj _ hl;obtain⟨U,o2,ho2,hall⟩:=mem_ready.1 hr;have U:=getD_both U;rcases ok.one E i oi J hx with h|h|h
  .subst h
   rw[U];simp
  .have h1:=h.1
   have:listed.getD j false=false:=by
    cases hb:listed.getD j false with
    |false=>rfl
    |true=>have:=h.listed inv.closed hb;rw[U]at this;cases this
   rw[this];exact dF (by omega)
  .rw[h.2 listed inv.closed λoi' hoi' e he hb=>by
    obtain rfl:oi'=o2:=Option.some.inj (hoi'.symm.trans ho2);exact hall e he hb]
   exact dT h.1
 cases ho:CD ops n x with
 |none=>
  left;refine DQ n λj hj hl=>?_
  cases Z:Bf (m j) x with
  |none=>exact absurd Z hl
  |some W=>
   obtain⟨oj,ok⟩:=hm1 j hj _ Z;rcases ok.edge with⟨e,he,hb,hd⟩|⟨E,_⟩
   .have hlt:=hq.back j oj e ok.at_ he hb
    exact absurd hd (Kr ho e.on (by omega))
   .exact one j hj W Z E
 |some k=>
  obtain⟨hk,hdk⟩:=Bd ho;obtain⟨oi',hoi',hnl⟩:=hq.dst i hi;obtain rfl:oi'=oi:=Option.some.inj (hoi'.symm.trans J);have hne:k≠i:=by
   rintro rfl
   have:oi'.dst=some x:=by simpa [AH,J]using hdk
   exact hnl x this hx
  obtain⟨e,he,hb,hon⟩:=(hq.ne k i x oi' hk hi hne hdk J).2 hx;obtain⟨U,o2,ho2,hall⟩:=mem_ready.1 hr;obtain rfl:o2=oi':=Option.some.inj (ho2.symm.trans J);have h1:=hall e he hb;rw[hon]at h1;have h2:=hq.back i o2 e J he hb;rw[hon]at h2;simp only[h1,h2,if_true];have U:=getD_both U;by_cases hex:∃j c,j<n/\Bf (m j) x=some (.part c)
  .obtain⟨j,c,hj,hl⟩:=hex
   obtain⟨oj,ok⟩:=hm1 j hj _ hl;obtain⟨hg,c',hop,_⟩:=ok.part c rfl i o2 hi J hx;right;refine⟨hg,c',hop,?_⟩
   have side:∀S:Nat->Bool,S i=false->EqC c' (r k) (apS S m x (r k) n):=by
    intro S hSi;refine Wm n λj' hj' hs W hl'=>?_
    obtain⟨oj',ok'⟩:=hm1 j' hj' _ hl';cases E:W.isPart with
    |false=>
     obtain⟨_,c3,hop3,_⟩:=ok.part c rfl j' oj' hj' ok'.at_ ok'.looks;exact absurd hop3 (ok'.nx E _ _)
    |true=>
     cases W<;>first|cases E|skip
     rename_i c2;obtain⟨_,c3,hop3,hne3⟩:=ok'.part c2 rfl i o2 hi J hx;rw[hop]at hop3;cases hop3;refine⟨c2,rfl,λe=>?_⟩
     have hij:i≠j':=by
      rintro rfl
      rw[hSi]at hs;cases hs
     exact hne3 hij e.symm
   exact(side (λj=>decide (j<i)) (by simp)).symm.trans (side (λj=>listed.getD j false) U)
  .left
   refine DQ n λj hj hl=>?_
   cases Z:Bf (m j) x with
   |none=>exact absurd Z hl
   |some W=>
    cases E:W.isPart with
    |true=>
     cases W<;>first|cases E|skip
     exact absurd ⟨j,_,hj,Z⟩ hex
    |false=>exact one j hj W Z E
theorem agreeA(hq:QOK ops n)(hm:MOK A B ops n m)(J:HeadInv .any ops n listed)(hi:i<n)(hr:i∈Region.ready .any ops listed){tk:Tk}(hk:MOKA A B ops n i (x,tk) oi):
  Cg ops r m t0 i x=pt ops n r m t0 listed x:=by
 rw[Hp hq hm r t0 x i (Nat.le_of_lt hi)];unfold pt;have Z:CD ops n x=none:=by
  cases hw:CD ops n x with
  |none=>rfl
  |some k=>exact absurd (Bd hw).2 (hk.nd k)
 rw[Z];refine DQ n λj hj hl=>?_
 cases U:Bf (m j) x with
 |none=>exact absurd U hl
 |some tk'=>
  obtain⟨E,o2,ho2,hall⟩:=mem_ready.1 hr;have E:=getD_both E;have W:j=i\/WS ops i j\/WS ops j i:=by
   obtain⟨oj,ok|ok⟩:=hm j hj _ (CG U)
   .exact absurd (hk.look j oj ok.at_ ok.looks) ok.na
   .exact hk.one j ok.us
  rcases W with h|h|h
  .subst h
   rw[E];simp
  .rw[h.2 listed J.closed λoi' hoi' e he hb=>by
    grind]
   exact dT h.1
  .have h1:=h.1
   have:listed.getD j false=false:=by
    cases hb:listed.getD j false with
    |false=>rfl
    |true=>have:=h.listed J.closed hb;rw[E]at this;cases this
   grind
theorem LY(Z:QOK ops n)(hm:MOK A B ops n m)(e:HeadInv .any ops n listed)(E:ops[i]? =some oi)(hi:i<n)(W:i∈Region.ready .any ops listed)(J:¬A i)(U:x∈oi.looksAt ops)(hne:∀y c,oi.op≠.extract y c):
  Cg ops r m t0 i x=pt ops n r m t0 listed x:=by
 rcases Wr Z hm e E hi W J U with h|⟨_,c,h,_⟩
 .omega
 grind
theorem ML{v v':V}{K:V->Prop}(h:EqC c v v')(e:Cw v c K):Cw v' c K:=by
 rcases h with rfl|⟨E,n,f,g,rfl,rfl,J⟩
 .omega
 .unfold Cw at e⊢
  grind
theorem PR.skip{T:Nat->Nat->Prop}{t:Nat->V}(J:PR C N σ ρ F t a w D T)(E:d<N):
  ∃T',PR C N σ ρ F (AI t d udV) (a.put (some d) undef) w D T'/\∀x b,T' x b->T x b:=
 ⟨_,J.put (Below.refl _ _) Rel.ud (λ_ h=>h.elim) (λ_ h=>h) (λ_ h=>.inl h) (λb e=>⟨J.wr.Dlt b e,λh=>h⟩) E,λx b e=>by split at e;exact e.elim;grind⟩
theorem HG{Q:Exit->Act->World->Prop}{K:Act->World->Prop}(hq:QOK ops n)(hm:MOK (isA h ops) (isB h ops) ops n m)(inv:HeadInv .any ops n listed)(hi:i<n)(hr:i∈Region.ready .any ops listed)
  (hst:∀j,j<n->∀o,ops[j]? =some o->IG P h ops σ o (Cg ops r m t0 j) (r j) (m j)) {D:Nat->Prop}{T:Nat->Nat->Prop}{a:Act}{w:World}
  (hp:PR C h.n σ ρ F (pt ops n r m t0 listed) a w D T) (hT:∀x b,T x b->OH ops n X x) (hal:∀oi,ops[i]? =some oi->∀z y,AlP h ops oi z y->a.tmps.getD z undef=a.tmps.getD y undef)
  (hK:∀a' w' D' T',PR C h.n σ ρ F (pt ops n r m t0 (listed.setIfInBounds i true)) a' w' D' T'->(∀x b,T' x b->OH ops n X x)->(∀x,AH ops i≠some x->a'.tmps[x]? =a.tmps[x]?)->K a' w'):wpOp P ops Q i K a w:=by
 obtain⟨oi,hoi,hnl⟩:=hq.dst i hi;have hdoi:AH ops i=oi.dst:=by simp[AH,hoi]
 rw[pt_set hq hm inv hi hr,hdoi]at hK
 have hgv:∀j want,oi.guard=some (j,want)->gv (pt ops n r m t0 listed) ops j=gv (Cg ops r m t0 i) ops j:=by
  intro j want hg;unfold gv;split
  .rename_i x J
   rcases Wr (r:=r) (t0:=t0) hq hm inv hoi hi hr (fun⟨o',ho',ha⟩=>by
    obtain rfl:o'=oi:=Option.some.inj (ho'.symm.trans hoi);rw[C8 hg]at ha;cases ha) (x:=x) (by unfold Oper.looksAt;rw[hg];simp[J])with h|⟨h,_⟩
   .exact h.symm
   .rw[hg]at h;cases h
  .rfl
 unfold wpOp;simp only[hoi];rcases hst i hi oi hoi with⟨hna,hs⟩|⟨ha,d,hd,hdn,hri,hmi⟩
 rotate_left
 .obtain⟨hg,y,z,U,hz,_⟩:=LX ha
  have hw:Region.wanted oi (yielded ops a.tmps)=true:=by simp[Region.wanted,hg]
  rw[if_pos hw];refine .inl ?_;have hrun:(execOp a.eval oi).run P w=.ok (.value (a.eval (.tmp y))) w:=by unfold execOp;rw[U];rfl
  unfold Oper.wp;rw[hrun];show K (a.put oi.dst (a.eval (.tmp y))) w;rw[hd]at hK⊢;rw[hmi,DB,hri]at hK;refine hK _ _ _ _ (hp.put (fp:=noF) (Below.refl _ _) (show Rel D w (Au σ ρ w) .dead (a.eval (.tmp y)) noF from λ_ h=>h) (λ_ h=>h.elim) (λ_ h=>h) (λ_ h=>.inl h) (λb E=>⟨hp.wr.Dlt b E,λh=>h⟩) hdn) (λx b E=>?_) λx J=>BJ J
  split at E
  .exact E.elim
  .exact hT x b E
 have hnA:¬isA h ops i:=fun⟨o',ho',ha⟩=>by
  obtain rfl:o'=oi:=Option.some.inj (ho'.symm.trans hoi);rw[hna]at ha;cases ha
 rcases hs with⟨d,hd,hs⟩|⟨hg,hmv,hne,hlq⟩|⟨j,want,hg,hgj,hdn,hmi⟩
 rotate_left
 .have hw:Region.wanted oi (yielded ops a.tmps)=true:=by simp[Region.wanted,hg]
  rw[if_pos hw];refine .inl (hlq C ρ F a w D T (pt ops n r m t0 listed) (λx J=>?_) (hal oi hoi) hp K Q λa' w' D' T' hp' hT' htm=>hK a' w' D' T' hp' (λx b E=>?_) htm)
  .have hnx:∀y c,oi.op≠.extract y c:=λy c e=>by rw[e]at hne;cases hne
   rcases J with J|J
   rotate_left
   .cases hl:Bf (m i) x with
    |none=>exact absurd hl J
    |some tk=>
     obtain⟨oi',ok|ok⟩:=hm i hi _ (CG hl)
     .obtain rfl:oi'=oi:=Option.some.inj (ok.at_.symm.trans hoi)
      exact(LY hq hm inv hoi hi hr hnA ok.looks hnx).symm
     .exact(agreeA hq hm inv hi hr ok).symm
   refine(LY hq hm inv hoi hi hr hnA ?_ hnx).symm;unfold D8 at J;obtain⟨u,hu,he⟩:=List.mem_filterMap.1 J;cases u with
   |tmp y=>
    cases he;unfold Oper.looksAt;refine List.mem_append_left _ ?_;rw[List.mem_filterMap];exact⟨.tmp x,by simpa using hu,rfl⟩
   |const v=>cases he
   |global g=>cases he
   |func f=>cases he
  .rcases hT' x b E with h|⟨b',h⟩
   .exact .inl ⟨i,hi,hdoi.trans h⟩
   .exact hT x b' h
 .have Z:=hgj
  rw[<-hgv j want hg]at Z
  have hw:Region.wanted oi (yielded ops a.tmps)=false:=by
   rcases Z with Z|Z
   .have:=hp.gv Z
    cases want<;>simp[Region.wanted,hg,this]
   .simp[Region.wanted,hg,hp.gvN Z]
  rw[if_neg (by simp[hw]),hdn]
  rw[hdn,hmi,DB]at hK;exact hK _ _ _ _ hp hT λ_ _=>rfl
 have hdo:AH ops i=some d:=hdoi.trans hd;have htm:∀(v:Value) x,some d≠some x->(a.put (some d) v).tmps[x]? =a.tmps[x]?:=λv x J=>BJ J
 have hT':∀(fp:Nat->Prop) x b,(if x=d then fp else T x) b->OH ops n X x:=by
  intro fp x b E;split at E
  .rename_i J;subst J;exact .inl ⟨i,hi,hdo⟩
  .exact hT x b E
 rw[hd]at hK;rcases hs with⟨⟨hdn,hg,r',hqop,hri⟩|⟨j,want,hg,hgj,hdn,hri⟩,hmi⟩|⟨hdn,hg,hfz,hmv,hmq⟩
 .rw[hmi,DB]at hK
  have hw:Region.wanted oi (yielded ops a.tmps)=true:=by
   rcases hg with hg|⟨j,want,hg,hgj⟩
   .simp[Region.wanted,hg]
   .rw[<-hgv j want hg]at hgj
    simp[Region.wanted,hg,hp.gv hgj]
  rw[if_pos hw];refine .inl ?_;have look:∀y,Operand.tmp y∈oi.op.operands->y∈oi.looksAt ops:=by
   intro y J;unfold Oper.looksAt;refine List.mem_append_left _ ?_;rw[List.mem_filterMap];exact⟨.tmp y,by simpa using J,rfl⟩
  have hqop':qop P σ (Ms.ev ⟨pt ops n r m t0 listed,σ⟩) oi.op (λx=>x=r'):=by
   by_cases hex:∃y c,oi.op=.extract (.tmp y) c
   .obtain⟨y,c,U⟩:=hex
    have hE:EqC c (Cg ops r m t0 i y) (pt ops n r m t0 listed y):=by
     rcases Wr (r:=r) (t0:=t0) hq hm inv hoi hi hr hnA (x:=y) (look y (by rw[U];simp[Op.operands]))with h|⟨_,c',h,h'⟩
     .exact .inl h
     .rw[U]at h;cases h;exact h'
    rw[U]at hqop⊢;exact ML (K:=λr0=>∃r,Sub r0 r/\r=r') hE hqop
   .refine U9 (λx J=>?_) hqop
    cases x with
    |tmp y=>
     show Cg ops r m t0 i y=pt ops n r m t0 listed y;rcases Wr (r:=r) (t0:=t0) hq hm inv hoi hi hr hnA (look y J)with h|⟨_,c,h,_⟩
     .exact h
     .exact absurd ⟨y,c,h⟩ hex
    |const v=>rfl
    |global g=>rfl
    |func f=>rfl
  obtain⟨r2,rfl,hy⟩:=ME (o:=oi) hp.ok hp.wr (λx _=>hp.ev x) hqop'
  refine hy K Q λv' w' D' fp hB hr' hf hd1 hd2 hd3=>?_
  rw[hd];rw[hri]at hK;split at hK
  .refine hK _ _ _ _ (hp.put (D':=λb=>D' b\/fp b) (fp:=noF) hB (Rel.frz _ _ _ hr') (λ_ h=>h.elim) (λb E=>.inl (hd1 b E)) (λb E=>?_) (λb E=>⟨?_,λh=>h⟩) hdn) (hT' _) (htm _)
   .rcases E with E|E
    .exact hd2 b E
    .exact .inr (hf b E)
   .rcases E with E|E
    .exact(hd3 b E).1
    .exact Rel.lt _ _ _ hr' b E
  .exact hK _ _ _ _ (hp.put hB hr' hf hd1 hd2 hd3 hdn) (hT' _) (htm _)
 .rw[hmi,DB]at hK
  have Z:=hgj;rw[<-hgv j want hg]at Z
  have hw:Region.wanted oi (yielded ops a.tmps)=false:=by
   rcases Z with Z|Z
   .have:=hp.gv Z
    cases want<;>simp[Region.wanted,hg,this]
   .simp[Region.wanted,hg,hp.gvN Z]
  rw[if_neg (by simp[hw]),hd]
  rw[hri]at hK;obtain⟨T',hp',hsub⟩:=hp.skip hdn;exact hK _ _ _ _ hp' (λx b E=>hT x b (hsub x b E)) (htm _)
 .have hw:Region.wanted oi (yielded ops a.tmps)=true:=by simp[Region.wanted,hg]
  rw[if_pos hw];refine .inl ?_;have hlook:∀p∈m i,p.1∈oi.looksAt ops:=by
   intro p hp;have look:∀y,Operand.tmp y∈oi.op.operands->y∈oi.looksAt ops:=by
    intro y J;unfold Oper.looksAt;refine List.mem_append_left _ ?_;rw[List.mem_filterMap];exact⟨.tmp y,by simpa using J,rfl⟩
   rcases hmq with⟨y,U,hys,_⟩|⟨y,c,nn,f,U,hys,_⟩
   .rw[hys,List.mem_singleton]at hp
    rw[hp];exact look y (by rcases U with U|U<;>(rw[U];simp[Op.operands]))
   .rw[hys,List.mem_singleton]at hp
    rw[hp];exact look y (by rw[U];simp[Op.operands])
  rcases hmq with⟨y,U,hys,hri⟩|⟨y,c,nn,f,U,hys,hty,hcn,hri⟩
  .rw[hys]at hK hlook
   rw[LY hq hm inv hoi hi hr hnA (hlook (y,.put (hdV (r i))) (by simp)) (by rintro z c h;rcases U with U|U<;>(rw[U]at h;cases h))]at hri
   have hrun:(execOp a.eval oi).run P w=.ok (.value (a.eval (.tmp y))) w:=by unfold execOp;rcases U with U|U<;>(rw[U];rfl)
   unfold Oper.wp;rw[hrun];show K (a.put oi.dst (a.eval (.tmp y))) w;rw[hd]
   obtain⟨fp,hrel,hfp⟩:∃fp,Rel D w (Au σ ρ w) (r i) (a.eval (.tmp y)) fp/\∀b,fp b->T y b:=by
    rw[hri];by_cases hy:y<h.n
    .exact⟨T y,hp.tm y hy,λ_ h=>h⟩
    .exact⟨noF,by rw[hp.dd y (Nat.le_of_not_lt hy)];exact λ_ h=>h,λ_ h=>h.elim⟩
   have kM:∀x,AP [(y,.put (hdV (r i)))] (pt ops n r m t0 listed) x=if x=y then hdV (r i)else pt ops n r m t0 listed x:=by
    intro x;unfold AP;by_cases J:x=y
    .subst J
     rw[if_pos rfl];show HR (if x=x then some (.put (hdV (r i)))else none) _=_
     rw[if_pos rfl];rfl
    .rw[if_neg J]
     show HR (if y=x then some (.put (hdV (r i)))else none) _=_
     rw[if_neg (Ne.symm J)];rfl
   refine hK _ _ _ _ (hp.move (t1:=AP [(y,.put (hdV (r i)))] (pt ops n r m t0 listed)) (T1:=λx=>if x=y then noF else T x) (λx J=>?_) (λx b E=>?_) (λx J=>?_) (Below.refl _ _) hrel (λb E=>.inl ⟨y,hfp b E,λx J=>?_⟩) (λ_ h=>h) (λ_ h=>.inl h) (λb E=>⟨hp.wr.Dlt b E,λh=>hp.tD y b (hfp b h) E⟩) hdn) (λx b E=>?_) (htm _)
   .rw[kM]
    by_cases W:x=y
    .rw[if_pos W,if_pos W,W];exact hrel.hd
    .rw[if_neg W,if_neg W];exact hp.tm x J
   .split at E
    .exact E.elim
    .exact E
   .rw[kM]
    split
    .rename_i W
     rw[hri,<-W,hp.dd x J];rfl
    .exact hp.dd x J
   .split at J
    .exact J.elim
    .rename_i W;exact hp.tT x y b W J (hfp b E)
   .split at E
    .rename_i J;subst J;exact .inl ⟨i,hi,hdo⟩
    .split at E
     .exact E.elim
     .exact hT x b E
  .rw[hys]at hK hlook
   -- the part, and what is left
   obtain⟨g,hg',hgc⟩:∃g,pt ops n r m t0 listed y=.many .tu nn g/\g c=f c:=by
    rcases Wr (r:=r) (t0:=t0) hq hm inv hoi hi hr hnA (hlook (y,.part c) (by simp))with h|⟨_,c',h,h'⟩
    .exact⟨f,h▸hty,rfl⟩
    .rw[U]at h
     cases h;rcases h' with h'|⟨tg,n2,f2,g2,h1,h2,h3⟩
     .exact⟨f,h'▸hty,rfl⟩
     .rw[hty]at h1
      cases h1;exact⟨g2,h2,h3.symm⟩
   have hyn:y<h.n:=by
    rcases Nat.lt_or_ge y h.n with h'|h'
    .exact h'
    .rw[hp.dd y h']at hg';cases hg'
   have hry:=hp.tm y hyn;rw[hg']at hry;obtain⟨cs,G,hcv,hcs,hrel,hdis,hfp⟩:=hry;have hcv:a.eval (.tmp y)=.tuple cs:=hcv
   have hrun:(execOp a.eval oi).run P w=.ok (.value (cs.getD c undef)) w:=by
    unfold execOp;rw[U];simp[Instr.extract,hcv,hcs,hcn]
   unfold Oper.wp;rw[hrun];show K (a.put oi.dst (cs.getD c undef)) w;rw[hd];have hrc:Rel D w (Au σ ρ w) (r i) (cs.getD c undef) (G c):=by rw[hri,<-hgc];exact hrel c hcn
   have kM:∀x,AP [(y,.part c)] (pt ops n r m t0 listed) x=if x=y then Ng c (.many .tu nn g)else pt ops n r m t0 listed x:=by
    intro x;unfold AP;by_cases J:x=y
    .subst J
     rw[if_pos rfl];show HR (if x=x then some (.part c)else none) _=_
     rw[if_pos rfl,hg'];rfl
    .rw[if_neg J]
     show HR (if y=x then some (.part c)else none) _=_
     rw[if_neg (Ne.symm J)];rfl
   refine hK _ _ _ _ (hp.move (t1:=AP [(y,.part c)] (pt ops n r m t0 listed)) (T1:=λx=>if x=y then λb=>∃k,k<nn/\k≠c/\G k b else T x) (λx J=>?_) (λx b E=>?_) (λx J=>?_) (Below.refl _ _) hrc (λb E=>.inl ⟨y,(hfp b).2 ⟨c,hcn,E⟩,λx J=>?_⟩) (λ_ h=>h) (λ_ h=>.inl h) (λb E=>⟨hp.wr.Dlt b E,λh=>hp.tD y b ((hfp b).2 ⟨c,hcn,h⟩) E⟩) hdn) (λx b E=>?_) (htm _)
   .rw[kM]
    by_cases W:x=y
    .rw[if_pos W,if_pos W]
     subst W;refine⟨cs,λk=>if k=c then noF else G k,hcv,hcs,λk hk=>?_,λk k' b hk hk' hne h1 h2=>?_,λb=>⟨fun⟨k,h1,h2,h3⟩=>⟨k,h1,by show(if k=c then noF else G k) b;rw[if_neg h2];exact h3⟩,fun⟨k,h1,h2⟩=>?_⟩⟩
     .show Rel D w _ (if k=c then .dead else g k) _ (if k=c then noF else G k)
      by_cases hkc:k=c
      .rw[if_pos hkc,if_pos hkc];exact λ_ h=>h
      .rw[if_neg hkc,if_neg hkc];exact hrel k hk
     .have h1:(if k=c then noF else G k) b:=h1
      have h2:(if k'=c then noF else G k') b:=h2
      split at h1
      .exact h1
      .split at h2
       .exact h2
       .exact hdis k k' b hk hk' hne h1 h2
     .have h2:(if k=c then noF else G k) b:=h2
      split at h2
      .exact h2.elim
      .rename_i hkc;exact⟨k,h1,hkc,h2⟩
    .rw[if_neg W,if_neg W];exact hp.tm x J
   .split at E
    .rename_i W
     subst W;obtain⟨k,h1,_,h3⟩:=E;exact(hfp b).2 ⟨k,h1,h3⟩
    .exact E
   .rw[kM]
    have:x≠y:=λe=>absurd hyn (Nat.not_lt.2 (e▸J))
    rw[if_neg this];exact hp.dd x J
   .split at J
    .obtain⟨k,h1,h2,h3⟩:=J
     exact hdis k c b h1 hcn h2 h3 E
    .rename_i W;exact hp.tT x y b W J ((hfp b).2 ⟨c,hcn,E⟩)
   .split at E
    .rename_i J;subst J;exact .inl ⟨i,hi,hdo⟩
    .split at E
     .rename_i W
      subst W;obtain⟨k,h1,_,h3⟩:=E;exact hT x b ((hfp b).2 ⟨k,h1,h3⟩)
     .exact hT x b E
theorem I7{Q:Exit->Act->World->Prop}(hq:QOK ops n)(htl:n=ops.size\/Region.chainB .any ops n=true):∀(J m:Nat) (listed:Array Bool) (a:Act) (w:World),n<=m->m<=ops.size->ops.size<=m+J->listed.size=ops.size->
  (∀j,j<ops.size->listed.getD j true=decide (j<m))->wpList P ops Q (ops.toList.drop m) a w->wpAny P .any ops Q J listed a w:=by
 have fals:∀{listed:Array Bool}{j m:Nat},listed.size=ops.size->(∀j,j<ops.size->listed.getD j true=decide (j<m))->j<ops.size->listed.getD j false=decide (j<m):=by
  intro listed j m hs U Z;have:=U j Z;rw[<-hs]at Z;simp[Z]at this⊢;exact this
 intro J
 induction J with
 |zero=>
  intro m listed a w hnm hm hf hs U hw;obtain rfl:m=ops.size:=by omega
  refine⟨?_,?_⟩
  .cases hr:Region.ready .any ops listed with
   |nil=>rfl
   |cons j js=>
    have Z:j∈Region.ready .any ops listed:=by rw[hr];simp
    obtain⟨W,o,ho,_⟩:=mem_ready.1 Z;have E:j<ops.size:=(Array.getElem?_eq_some_iff.1 ho).1;rw[U j E]at W;simp[E]at W
  .have:ops.toList.drop ops.size=[]:=by simp
   rw[this]at hw;exact hw
 |succ f ih=>
  intro m listed a w hnm hm hf hs U hw;by_cases hms:m=ops.size
  .subst hms
   have hnil:Region.ready .any ops listed=[]:=by
    cases hr:Region.ready .any ops listed with
    |nil=>rfl
    |cons j js=>
     have Z:j∈Region.ready .any ops listed:=by rw[hr];simp
     obtain⟨W,o,ho,_⟩:=mem_ready.1 Z;have E:j<ops.size:=(Array.getElem?_eq_some_iff.1 ho).1;rw[U j E]at W;simp[E]at W
   refine⟨λ_=>?_,λi hi=>by rw[hnil]at hi;cases hi⟩
   have:ops.toList.drop ops.size=[]:=by simp
   rw[this]at hw;exact hw
  .have E:m<ops.size:=by omega
   have hom:ops[m]? =some ops[m]:=by simp[E]
   have hmr:m∈Region.ready .any ops listed:=by
    refine mem_ready.2 ⟨by rw[U m E];simp,ops[m],hom,λe he hb=>?_⟩
    have W:=hq.back m ops[m] e hom he hb;rw[fals hs U (by omega)]
    simp[W]
   refine⟨λh0=>(by rw[h0]at hmr;cases hmr),λi hi=>?_⟩
   have him:i=m:=by
    obtain⟨W,o,ho,hall⟩:=mem_ready.1 hi;have hil:i<ops.size:=(Array.getElem?_eq_some_iff.1 ho).1;rw[U i hil]at W;simp at W;by_cases he:i=m
    .exact he
    .rcases htl with ht|hc
     .omega
     .have h2:=aET.1 hc i (List.mem_range.2 hil)
      simp only[Bool.or_eq_true,decide_eq_true_eq]at h2;rcases h2 with h2|h2
      .omega
      .obtain⟨o',ho',e,he',hb,hon⟩:=Region.waitsFor_spec h2
       obtain rfl:o'=o:=Option.some.inj (ho'.symm.trans ho);have h3:=hall e he' hb;rw[hon,fals hs U (by omega)]at h3
       simp at h3;omega
   subst him
   have hdrop:ops.toList.drop i=ops[i]::ops.toList.drop (i+1):=by
    have:=List.drop_eq_getElem_cons (l:=ops.toList) (i:=i) (by simpa using E)
    simpa using this
   rw[hdrop]at hw
   have hw':wpOp P ops Q i (wpList P ops Q (ops.toList.drop (i+1))) a w:=by
    unfold wpOp;simp only[hom];exact hw
   refine wpOp_mono (λa' w' h'=>ih (i+1) _ a' w' (by omega) (by omega) (by omega) (by simpa using hs) (λj Z=>?_) h') hw'
   by_cases hij:i=j
   .subst hij
    have:i<listed.size:=by rw[hs];exact E
    simp[this]
   .rw[getD_set_ne true hij,U j Z]
    have:(j<i)=(j<i+1):=by
     apply propext;constructor<;>intro _<;>omega
    simp[this]
def unl(listed:Array Bool)(n:Nat):Nat:=(List.range n).countP λi=>!listed.getD i true
theorem NL(U:i<listed.size)(J:listed.getD i true=false):∀n,unl (listed.setIfInBounds i true) n+(if i<n then 1 else 0)=unl listed n:=by
 intro n
 induction n with
 |zero=>rfl
 |succ n E=>
  unfold unl at E⊢;rw[List.range_succ,List.countP_append];simp only[List.countP_singleton];by_cases e:i=n
  .simp_all
  .rw[getD_set_ne true e]
   grind
theorem NM(e:listed.getD i true=false):∀n,i<n->0<unl listed n:=by
 intro n E;unfold unl;rw[List.countP_pos_iff]
 grind
theorem Dc(h:dst≠some d):(a.put (some d) v).put dst u=(a.put dst u).put (some d) v:=by
 cases dst with
 |none=>rfl
 |some e=>
  have E:d≠e:=λJ=>h (by grind)
  unfold Act.put;simp;rw[Array.setIfInBounds_comm _ _ E]
theorem PN{Q:Exit->Act->World->Prop}{K' K:Act->World->Prop}{d:Nat}{v:Value}(ho:ops[i]? =some o)(Z:∀e a w,e≠.normal->¬Q0 e a w)(hs:∀cs b,o.op≠.select cs b)
  (hl:d∉o.looksAt ops) (hd:o.dst≠some d) (W:∀a1 w1,(∀x,o.dst≠some x->a1.tmps[x]? =a.tmps[x]?)->K' (a1.put (some d) v) w1->K a1 w1)
  (h:wpOp P ops Q0 i K' (a.put (some d) v) w):wpOp P ops Q i K a w:=by
 unfold wpOp at h⊢;simp only[ho]at h⊢;rw[wanted_put o a (some d) v (λd' U=>by cases U;exact hl)]at h
 split
 .rename_i hw
  rw[if_pos hw]at h;rcases h with h|⟨_,_,_,h⟩
  .left
   unfold Oper.wp at h⊢;rw[execOp_put (ops:=ops) o hs a (some d) v (λd' U=>by cases U;exact hl)]at h
   generalize (execOp a.eval o).run P w=r at h⊢;cases r with
   |ok n w'=>
    cases n with
    |value u=>exact W _ _ (λx E=>BJ E) (Dc hd▸h)
    |skip=>exact W _ _ (λx E=>BJ E) (Dc hd▸h)
    |defer u=>exact W ({a with defers:=u::a.defers}.put o.dst undef) w' (λx E=>BJ (a:={a with defers:=u::a.defers}) E) (Dc hd▸h)
    |enter f args=>exact Calls.mono h (λe w'' J=>by
      cases e with
      |returned u=>exact W _ _ (λx E=>BJ E) (Dc hd▸J)
      |panicked c=>exact(Z _ _ _ (by simp) J).elim
      |outgrown=>obtain⟨_,_,J⟩:=J;exact(Z _ _ _ (by simp) J).elim)
    |row r args=>exact Rows.mono h (λu w'' J=>W _ _ (λx E=>BJ E) (Dc hd▸J))
    |_=>exact h
   |halt x w'=>
    cases x<;>first|exact h.elim|exact(Z _ _ _ (by simp) h).elim
  .exact(Z _ _ _ (by simp) h).elim
 .rename_i hw
  rw[if_neg hw]at h;exact W _ _ (λx E=>BJ E) (Dc hd▸h)
def QN(Q:Exit->Act->World->Prop):Exit->Act->World->Prop:=λe a w=>e=.normal/\Q .normal a w
theorem Aau:∀e a w,e≠.normal->¬QN Q e a w:=λ_ _ _ h E=>h E.1
theorem Ud{Q:Exit->Act->World->Prop}{i:Nat}(hq:∀e a w,e≠.normal->¬Q0 e a w)(J:∀a1 W,K' a1 W->K a1 W)
  (h:wpOp P ops Q0 i K' a w):wpOp P ops Q i K a w:=by
 unfold wpOp at h⊢;split
 .grind
 rename_i o ho;simp only[ho]at h;split
 .rename_i Z
  rw[if_pos Z]at h;rcases h with h|⟨_,_,_,h⟩
  .left
   unfold Oper.wp at h⊢;generalize (execOp a.eval o).run P w=r at h⊢;cases r with
   |ok n w'=>
    cases n with
    |value u=>exact J _ _ h
    |skip=>exact J _ _ h
    |defer u=>exact J _ _ h
    |enter f args=>exact Calls.mono h (λe U E=>by
      cases e with
      |returned u=>exact J _ _ E
      |panicked c=>grind
      |outgrown=>obtain⟨_,_,E⟩:=E;grind)
    |row r args=>exact Rows.mono h (λu U E=>J _ _ E)
    |_=>exact h
   |halt x w'=>
    cases x<;>first|exact h.elim|exact(hq _ _ _ (by simp) h).elim
  grind
 grind
theorem I1:∀(m:Nat) (a:Act) (w:World),ops.size-m<=ops.size->wpList P ops (QN Q) (ops.toList.drop m) a w->wpList P ops Q (ops.toList.drop m) a w:=by
 intro m
 induction hk:ops.size-m generalizing m with
 |zero=>
  intro a w _ h;have e:ops.toList.drop m=[]:=List.drop_eq_nil_of_le (by simp;omega)
  rw[e]at h⊢;exact h.2
 |succ k W=>
  intro a w _ h;have J:m<ops.size:=by omega
  have E:=by
   have:=List.drop_eq_getElem_cons (l:=ops.toList) (i:=m) (by grind)
   omega
  rw[E]at h⊢
  have h':wpOp P ops (QN Q) m (wpList P ops (QN Q) (ops.toList.drop (m+1))) a w:=by
   unfold wpOp;simp only[show ops[m]? =some ops[m] by simp];exact h
  have:=Ud (Q:=Q) Aau (λa1 U Z=>W (m+1) (by omega) a1 U (by omega) Z) h'
  unfold wpOp at this;simp only[show ops[m]? =some ops[m] by simp[J]]at this
  exact this
structure FI(P:Program)(ops:Array Oper)(Q:Exit->Act->World->Prop)(f m:Nat)(d y c:Nat)(v:Value)(listed:Array Bool)(a:Act)(w:World):Prop where
 sz:listed.size=ops.size
 ls:∀j,j<ops.size->listed.getD j true=decide (j<m/\j≠f)
 pu:∃cs,a.tmps[y]? =some (.tuple cs)/\cs[c]? =some v
 wl:wpList P ops (QN Q) (ops.toList.drop m) (a.put (some d) v) w
theorem IQ{j:Nat}{p:Prop} [Decidable p](hs:listed.size=ops.size)(e:j<ops.size)(h:listed.getD j true=decide p):listed.getD j false=decide p:=by grind
theorem KA{Q:Exit->Act->World->Prop}{m c:Nat}{v:Value}(hfm:f<m)(hm:m<ops.size){listed:Array Bool}{a:Act}{w:World}{ot:Oper}(E:ops[m]? =some ot)(h1:d∉ot.looksAt ops)(h2:ot.dst≠some d)(h3:ot.dst≠some y)(h4:∀cs b,ot.op≠.select cs b)
  (h:FI P ops Q f m d y c v listed a w):wpOp P ops Q m (FI P ops Q f (m+1) d y c v (listed.setIfInBounds m true)) a w:=by
 have e:ops.toList.drop m=ot::ops.toList.drop (m+1):=by
  have:=List.drop_eq_getElem_cons (l:=ops.toList) (i:=m) (by simpa using hm)
  grind
 have hw:=h.wl;rw[e]at hw
 have U:wpOp P ops (QN Q) m (wpList P ops (QN Q) (ops.toList.drop (m+1))) (a.put (some d) v) w:=by
  unfold wpOp;simp only[E];exact hw
 refine PN E Aau h4 h1 h2 (λa1 w1 Z hk=>⟨by simpa using h.sz,λj hj=>?_,?_,hk⟩) U
 .by_cases J:m=j
  .subst J
   have:m<listed.size:=by rw[h.sz];exact hm
   have W:m≠f:=by omega
   simp[this,W]
  .rw[getD_set_ne true J,h.ls j hj]
   grind
 .obtain⟨cs,g1,g2⟩:=h.pu
  exact⟨cs,by rw[Z y h3];exact g1,g2⟩
theorem XK{Q:Exit->Act->World->Prop}(hq:QOK ops n)(hc:Region.chainB .any ops n=true)(fl:FL ops n f)(hof:ops[f]? =some o)(hog:o.guard=none)(hop:o.op=.extract (.tmp y) c)(hod:o.dst=some d)
  (hot:∀t ot,n<=t->ops[t]? =some ot->Region.waitsFor .any ops t f=false->d∉ot.looksAt ops/\ot.dst≠some d/\ot.dst≠some y/\∀cs b,ot.op≠.select cs b) {v:Value}:
  ∀(J m:Nat) (listed:Array Bool) (a:Act) (w:World),n<=m->m<=ops.size->ops.size+1<=m+J->FI P ops Q f m d y c v listed a w->wpAny P .any ops Q J listed a w:=by
 intro J
 induction J with
 |zero=>intro m listed a w _ h1 h2;omega
 |succ g ih=>
  intro m listed a w hnm hms hf h;have hfn:=fl.fn;have hfs:f<ops.size:=by have:=hq.le;omega
  have hfr:f∈Region.ready .any ops listed:=by
   refine mem_ready.2 ⟨by rw[h.ls f hfs];simp,o,hof,λe he hb=>?_⟩
   have h1:=hq.back f o e hof he hb;rw[IQ h.sz (by omega) (h.ls e.on (by omega))]
   exact dT ⟨by omega,by omega⟩
  refine⟨λh0=>(by rw[h0]at hfr;cases hfr),λi hi=>?_⟩
  obtain⟨h1,oi,E,W⟩:=mem_ready.1 hi;have U:i<ops.size:=(Array.getElem?_eq_some_iff.1 E).1;rw[h.ls i U]at h1;have h1:=of_decide_eq_false h1;by_cases hif:i=f
  .subst hif
   obtain rfl:oi=o:=Option.some.inj (E.symm.trans hof);unfold wpOp;simp only[E];have hw:Region.wanted oi (yielded ops a.tmps)=true:=by simp[Region.wanted,hog]
   rw[if_pos hw];left;obtain⟨cs,g1,g2⟩:=h.pu;have hev:a.eval (.tmp y)=.tuple cs:=by
    show a.tmps.getD y undef=_;simp[Array.getD_eq_getD_getElem?,g1]
   have hrun:(execOp a.eval oi).run P w=.ok (.value v) w:=by
    unfold execOp;rw[hop];simp[Instr.extract,hev,g2]
   unfold Oper.wp;rw[hrun];show wpAny P .any ops Q g _ (a.put oi.dst v) w;rw[hod];refine I7 hq (.inr hc) g m _ _ w hnm hms (by omega) (by simpa using h.sz) (λj hj=>?_) (I1 m _ w (by omega) h.wl)
   by_cases hij:i=j
   .subst hij
    have:i<listed.size:=by rw[h.sz];exact U
    have hlt:i<m:=by omega
    simp[this,hlt]
   .rw[getD_set_ne true hij,h.ls j hj]
    have:(j<m/\j≠i)=(j<m):=propext ⟨λh=>h.1,λh=>⟨h,Ne.symm hij⟩⟩
    simp only[this]
  .have hnot:¬i<m:=λh=>h1 ⟨h,hif⟩
   have him:i=m:=by
    have h2:=aET.1 hc i (List.mem_range.2 U);simp only[Bool.or_eq_true,decide_eq_true_eq]at h2;rcases h2 with h2|h2
    .omega
    .by_cases he:i=m
     .exact he
     .obtain⟨o',ho',e,he',hb,Z⟩:=Region.waitsFor_spec h2
      obtain rfl:o'=oi:=Option.some.inj (ho'.symm.trans E);have h3:=W e he' hb;rw[Z,IQ h.sz (by omega) (h.ls (i-1) (by omega))]at h3
      have:=(of_decide_eq_true h3).1;omega
   subst him;have hnw:Region.waitsFor .any ops i f=false:=by
    cases hwf:Region.waitsFor .any ops i f with
    |false=>rfl
    |true=>
     obtain⟨o',ho',e,he',hb,Z⟩:=Region.waitsFor_spec hwf;obtain rfl:o'=oi:=Option.some.inj (ho'.symm.trans E);have h3:=W e he' hb;rw[Z,IQ h.sz hfs (h.ls f hfs)]at h3;exact absurd rfl (of_decide_eq_true h3).2
   obtain⟨g1,g2,g3,g4⟩:=hot i oi hnm E hnw;exact wpOp_mono (λa1 w1 hk=>ih (i+1) _ a1 w1 (by omega) (by omega) (by omega) hk) (KA (by omega) U E g1 g2 g3 g4 h)
theorem Vh(E:QOK ops n)(Z:MOK A B ops n m)(hs:listed.size=ops.size)(J:∀i,i<n->listed.getD i true=true):pt ops n r m t0 listed=Cg ops r m t0 n:=by
 have hle:=E.le;have U:∀k,k<n->listed.getD k false=true:=λk e=>by
  grind
 funext x
 rw[Hp E Z r t0 x n (Nat.le_refl _)];unfold pt;cases W:CD ops n x with
 |none=>exact Cr n λi hi=>by grind
 |some k=>
  have e:=(Bd W).1;simp only[U k e,e,if_true];exact Cr n λi hi=>by grind
theorem I0{Q:Exit->Act->World->Prop}{K:Act->World->Prop}{i:Nat}{a:Act}{w:World}
  (e:wpOp P ops Q i (λE w'=>(∀o y z,ops[i]? =some o->o.guard=none->o.op=.move (.tmp y)->o.dst=some z->E=a.put (some z) (a.eval (.tmp y)))->K E w') a w):wpOp P ops Q i K a w:=by
 unfold wpOp at e⊢;cases ho:ops[i]? with
 |none=>
  simp only[ho]at e⊢;exact e λo _ _ h=>by cases h
 |some o=>
  simp only[ho]at e⊢;by_cases hmv:∃y z,o.guard=none/\o.op=.move (.tmp y)/\o.dst=some z
  .obtain⟨y,z,hg,hop,hd⟩:=hmv
   have W:Region.wanted o (yielded ops a.tmps)=true:=by simp[Region.wanted,hg]
   rw[if_pos W]at e⊢;rcases e with e|e
   .left
    have Z:(execOp a.eval o).run P w=.ok (.value (a.eval (.tmp y))) w:=by unfold execOp;rw[hop];rfl
    unfold Oper.wp at e⊢;rw[Z]at e⊢;rw[Oper.upon_value]at e⊢
    grind
   .exact .inr e
  .have U:∀E w',((∀J y z,some o=some J->J.guard=none->J.op=.move (.tmp y)->J.dst=some z->E=a.put (some z) (a.eval (.tmp y)))->K E w')->K E w':=λE w' h=>h λJ y z h1 h2 h3 h4=>by
    cases h1;exact absurd ⟨y,z,h2,h3,h4⟩ hmv
   split
   .rename_i W
    rw[if_pos W]at e;exact e.imp (Oper.wp_mono λE w'=>U E w') id
   .rename_i W
    rw[if_neg W]at e;exact U _ _ e
def AlI(h:Cs)(ops:Array Oper)(n:Nat)(listed:Array Bool)(a:Act):Prop:=∀j,j<n->listed.getD j false=true->∀c,ops[j]? =some c->alM h ops c=true->∀y z,c.op=.move (.tmp y)->c.dst=some z->a.tmps.getD z undef=a.tmps.getD y undef
theorem AlI.at(hI:AlI h ops n listed a)(hq:QOK ops n)(hi:i<n)(hr:i∈Region.ready .any ops listed):∀oi,ops[i]? =some oi->∀z y,AlP h ops oi z y->a.tmps.getD z undef=a.tmps.getD y undef:=by
 rintro oi E z y ⟨e,he,hb,c,hc,Z,U,hd⟩
 obtain⟨hun,o2,W,J⟩:=mem_ready.1 hr;obtain rfl:oi=o2:=Option.some.inj (E.symm.trans W);have hlt:=hq.back i oi e E he hb;exact hI e.on (by omega) (J e he hb) c hc Z y z U hd
theorem AlI.set{a':Act}(hI:AlI h ops n listed a)(hq:QOK ops n)
  (hst:∀j,j<n->∀o,ops[j]? =some o->IG P h ops σ o (Cg ops r m t0 j) (r j) (m j)) (inv:HeadInv .any ops n listed) {i:Nat} (hi:i<n) (hsz:a.tmps.size=h.n)
  (Z:∀x,AH ops i≠some x->a'.tmps[x]? =a.tmps[x]?) (hmv:∀o y z,ops[i]? =some o->o.guard=none->o.op=.move (.tmp y)->o.dst=some z->a'=a.put (some z) (a.eval (.tmp y))):AlI h ops n (listed.setIfInBounds i true) a':=by
 intro j hj hl c hc W y z J hd;obtain⟨hg,y2,z2,E,hd2,hnd⟩:=LX W;rw[J]at E;cases E;have hy:a'.tmps.getD y undef=a.tmps.getD y undef:=by
  rw[Array.getD_eq_getD_getElem?,Array.getD_eq_getD_getElem?,Z y (hnd i)]
 by_cases U:j=i
 .subst U
  have hz:z<h.n:=by
   rcases hst j hj c hc with⟨hna,_⟩|⟨_,d,hd3,hdn,_⟩
   .rw[W]at hna;cases hna
   grind
  have e:=hmv c y z hc hg J hd;rw[hy,e,BU];have hz2:z<a.tmps.size:=by rw[hsz];exact hz
  show _=a.eval (.tmp y);simp[hz2]
 .rw[getD_set_ne false (Ne.symm U)]at hl
  have hz:AH ops i≠some z:=by
   intro he;exact(hq.ne i j z c hi hj (Ne.symm U) he hc).1 hd
  rw[hy,Array.getD_eq_getD_getElem?,Z z hz,<-Array.getD_eq_getD_getElem?];exact hI j hj hl c hc W y z J hd
theorem Aaa{Q:Exit->Act->World->Prop}(hq:QOK ops n)(htl:PJ ops n)(hm:MOK (isA h ops) (isB h ops) ops n m)
  (hst:∀j,j<n->∀o,ops[j]? =some o->IG P h ops σ o (Cg ops r m t0 j) (r j) (m j))
  {a0:Act} (hend:∀a w D T,PR C h.n σ ρ F (Cg ops r m t0 n) a w D T->(∀x b,T x b->OH ops n X x)->(∀x,(∀i,i<n->AH ops i≠some x)->a.tmps[x]? =a0.tmps[x]?)->wpList P ops Q (ops.toList.drop n) a w)
  (hend0:∀a w D T,PR C h.n σ ρ F (Cg ops r m t0 n) a w D T->(∀x b,T x b->OH ops n X x)->(∀x,(∀i,i<n->AH ops i≠some x)->a.tmps[x]? =a0.tmps[x]?)->wpList P ops (QN Q) (ops.toList.drop n) a w):
  ∀(fuel:Nat) (listed:Array Bool) (a:Act) (w:World) (D:Nat->Prop) (T:Nat->Nat->Prop),HeadInv .any ops n listed->unl listed n+(ops.size-n)<=fuel->
   PR C h.n σ ρ F (pt ops n r m t0 listed) a w D T->(∀x b,T x b->OH ops n X x)->(∀x,(∀i,i<n->AH ops i≠some x)->a.tmps[x]? =a0.tmps[x]?)->AlI h ops n listed a->wpAny P .any ops Q fuel listed a w:=by
 intro fuel
 induction fuel with
 |zero=>
  intro listed a w D T J hf hp hT hA hI;have hle:=hq.le;have W:∀i,i<n->listed.getD i true=true:=by
   intro i hi;cases hu:listed.getD i true with
   |true=>rfl
   |false=>have:=NM hu n hi;omega
  have hpt:pt ops n r m t0 listed=Cg ops r m t0 n:=by
   funext x
   rw[Hp hq hm r t0 x n (Nat.le_refl _)];unfold pt;have ld:∀k,k<n->listed.getD k false=true:=λk Z=>by
    have h1:=W k Z;have h2:k<listed.size:=by rw[J.size];omega
    simp[h2]at h1⊢;exact h1
   cases ho:CD ops n x with
   |none=>exact Cr n λi hi=>by rw[ld i hi];simp[hi]
   |some k=>
    have Z:=(Bd ho).1;simp only[ld k Z,Z,if_true];exact Cr n λi hi=>by rw[ld i hi];simp[hi]
  rw[hpt]at hp;refine I7 hq (htl.imp id And.left) 0 n listed a w (Nat.le_refl _) hle (by omega) J.size (λj hj=>?_) (hend _ _ _ _ hp hT hA)
  by_cases U:j<n
  .rw[W j U];simp[U]
  .rw[J.tail j (by omega) hj];simp[U]
 |succ f ih=>
  intro listed a w D T J hf hp hT hA hI;have hle:=hq.le;by_cases W:∀i,i<n->listed.getD i true=true
  .have hpt:pt ops n r m t0 listed=Cg ops r m t0 n:=by
    funext x
    rw[Hp hq hm r t0 x n (Nat.le_refl _)];unfold pt;have ld:∀k,k<n->listed.getD k false=true:=λk Z=>by
     have h1:=W k Z;have h2:k<listed.size:=by rw[J.size];omega
     simp[h2]at h1⊢;exact h1
    cases ho:CD ops n x with
    |none=>exact Cr n λi hi=>by rw[ld i hi];simp[hi]
    |some k=>
     have Z:=(Bd ho).1;simp only[ld k Z,Z,if_true];exact Cr n λi hi=>by rw[ld i hi];simp[hi]
   rw[hpt]at hp;refine I7 hq (htl.imp id And.left) (f+1) n listed a w (Nat.le_refl _) hle (by omega) J.size (λj hj=>?_) (hend _ _ _ _ hp hT hA)
   by_cases U:j<n
   .rw[W j U];simp[U]
   .rw[J.tail j (by omega) hj];simp[U]
  .have hex:∃i,i<n/\listed.getD i true=false:=by
    apply Classical.byContradiction;intro hno;apply W;intro i hi;cases hu:listed.getD i true with
    |true=>rfl
    |false=>exact absurd ⟨i,hi,hu⟩ hno
   obtain⟨i,⟨hin,hun⟩,hmin⟩:=Qz hex;have hoi:ops[i]? =some ops[i]:=by
    have:i<ops.size:=by omega
    simp[this]
   have hir:i∈Region.ready .any ops listed:=by
    refine mem_ready.2 ⟨hun,ops[i],hoi,λe he hb=>?_⟩
    have h1:=hq.back i ops[i] e hoi he hb;have h2:=hmin e.on h1;have h3:e.on<listed.size:=by rw[J.size];omega
    cases hu:listed.getD e.on true with
    |false=>exact absurd ⟨by omega,hu⟩ h2
    |true=>simp[h3]at hu⊢;exact hu
   refine⟨λh0=>(by rw[h0]at hir;cases hir),λj hj=>?_⟩
   have hjs:j<ops.size:=by
    obtain⟨_,o,ho,_⟩:=mem_ready.1 hj;exact(Array.getElem?_eq_some_iff.1 ho).1
   rcases Nat.lt_or_ge j n with U|U
   case inr=>
    rcases htl with ht|⟨hc,hs|⟨ff,fl⟩⟩
    .omega
    .exact absurd hj (tail_waits hs hc (by omega) J _ i rfl hin hun j U)
    .obtain⟨hju,oj,hoj,hallj⟩:=mem_ready.1 hj
     have hjn':j=n:=by
      have h2:=aET.1 hc j (List.mem_range.2 hjs);simp only[Bool.or_eq_true,decide_eq_true_eq]at h2;rcases h2 with h2|h2
      .omega
      .by_cases he:j=n
       .exact he
       .obtain⟨o',ho',e,he',hb,hon⟩:=Region.waitsFor_spec h2
        obtain rfl:o'=oj:=Option.some.inj (ho'.symm.trans hoj);have h3:=hallj e he' hb;rw[hon,getD_both (J.tail (j-1) (by omega) (by omega))]at h3
        cases h3
     subst hjn';have lst:∀k,k<j->k≠ff->listed.getD k false=true:=λk Z hkf=>by
      obtain⟨o',ho',e,he',hb,hon⟩:=Region.waitsFor_spec (fl.others k Z hkf);obtain rfl:o'=oj:=Option.some.inj (ho'.symm.trans hoj);have h3:=hallj e he' hb;rwa [hon]at h3
     have lstT:∀k,k<j->k≠ff->listed.getD k true=true:=λk Z hkf=>by
      have h1:=lst k Z hkf;have h2:k<listed.size:=by rw[J.size];omega
      simp[h2]at h1⊢;exact h1
     have hif:i=ff:=by
      by_cases he:i=ff
      .exact he
      .have:=lstT i hin he
       rw[hun]at this;cases this
     subst hif;obtain⟨o,y,c,d,hof,hog,hop,hod,hot⟩:=fl.it;have hfr:i∈Region.ready .any ops listed:=hir;have hinv':=J.set hfr hin
     have hallL:∀k,k<j->(listed.setIfInBounds i true).getD k true=true:=λk Z=>by
      by_cases hki:i=k
      .subst hki
       have:i<listed.size:=by rw[J.size];omega
       simp[this]
      .rw[getD_set_ne true hki];exact lstT k Z (Ne.symm hki)
     have E:=HG (P:=P) (h:=h) (ops:=ops) (Q:=λ_ _ _=>False) (K:=wpList P ops (QN Q) (ops.toList.drop j)) hq hm J hin hfr hst hp hT (hI.at hq hin hfr) (λa' w' D' T' hp' hT' htm'=>by
      rw[Vh hq hm hinv'.size hallL]at hp';exact hend0 a' w' D' T' hp' hT' λx hx=>(htm' x (hx i hin)).trans (hA x hx))
     unfold wpOp at E;simp only[hof]at E;have hw:Region.wanted o (yielded ops a.tmps)=true:=by simp[Region.wanted,hog]
     rw[if_pos hw]at E;rcases E with E|⟨_,_,_,E⟩
     case inr=>exact E.elim
     have hFI:∃v,FI P ops Q i j d y c v listed a w:=by
      unfold Oper.wp at E;have hex:execOp a.eval o=(do let v<-Instr.extract (a.eval (.tmp y)) c;pure (.value v)):=by unfold execOp;rw[hop]
      rw[hex]at E
      have hlsd:∀k,k<ops.size->listed.getD k true=decide (k<j/\k≠i):=λk Z=>by
       by_cases hkj:k<j
       .by_cases hki:k=i
        .subst hki;rw[hun];simp
        .rw[lstT k hkj hki];simp[hkj,hki]
       .rw[J.tail k (by omega) Z];simp[hkj]
      have hevd:a.eval (.tmp y)=a.tmps.getD y undef:=rfl;cases hv:a.eval (.tmp y)with
      |tuple cs=>
       cases hcs:cs[c]? with
       |some v=>
        refine⟨v,J.size,hlsd,⟨cs,?_,hcs⟩,?_⟩
        .rw[hevd,Array.getD_eq_getD_getElem?]at hv
         cases hty:a.tmps[y]? with
         |none=>rw[hty]at hv;cases hv;simp at hcs
         |some u=>rw[hty]at hv;simp at hv;rw[hv]
        .simp only[hv,Instr.extract,hcs]at E
         have E:wpList P ops (QN Q) (ops.toList.drop j) (a.put o.dst v) w:=by simpa [Oper.upon]using E
         rw[hod]at E;exact E
       |none=>
        simp only[hv,Instr.extract,hcs]at E;simp[Oper.upon,stuck]at E
      |_=>
       simp only[hv,Instr.extract]at E;simp[Oper.upon,stuck]at E
     obtain⟨v,hFI⟩:=hFI;have hnw:Region.waitsFor .any ops j i=false:=by
      cases hwf:Region.waitsFor .any ops j i with
      |false=>rfl
      |true=>
       obtain⟨o',ho',e,he',hb,hon⟩:=Region.waitsFor_spec hwf;obtain rfl:o'=oj:=Option.some.inj (ho'.symm.trans hoj);have h3:=hallj e he' hb;rw[hon,getD_both hun]at h3;cases h3
     obtain⟨g1,g2,g3,g4⟩:=hot j oj (Nat.le_refl _) hoj hnw;have hu:0<unl listed j:=NM hun j hin;exact wpOp_mono (λa1 w1 Z=>XK hq hc fl hof hog hop hod hot f (j+1) _ a1 w1 (by omega) (by omega) (by omega) Z) (KA hin hjs hoj g1 g2 g3 g4 hFI)
   have hju:=(mem_ready.1 hj).1;have hcount:=NL (by rw[J.size];exact hjs) hju n
   rw[if_pos U]at hcount;refine I0 (HG hq hm J U hj hst hp hT (hI.at hq U hj) λa' w' D' T' hp' hT' htm' hmv=>ih _ a' w' D' T' (J.set hj U) (by omega) hp' hT' (λx hx=>(htm' x (hx j U)).trans (hA x hx)) (hI.set hq hst J U hp.sz htm' hmv))
theorem PR.prom{N:Nat}{t:Nat->V}{a:Act}{w:World}{D:Nat->Prop}{T:Nat->Nat->Prop}(e:PR C N σ ρ F t a w D T){d:Nat}(hdn:d<N):
  ∃ρ' F',PR C N (σ++(Go.Ve.prom (t d) σ.length).2) ρ' F' (AI t d (Go.Ve.prom (t d) σ.length).1) a w D (λx=>if x=d then noF else T x):=by
 obtain⟨ρ',F',ok,hr'⟩:=H3 (t d) σ ρ F _ (T d) e.wr (e.tm d hdn) (e.tD d) (λi b E=>e.tF i d b E)
 refine⟨ρ',F',e.df,e.sz,λx W=>?_,ok.wr,λx W=>?_,λx b E=>?_,λi x b E Z=>?_,λx y b hxy h1 h2=>?_,λx b E=>?_,e.fr,λi b E=>?_,e.D1,e.D2,
  λi U=>(ok.rt i (Nat.lt_of_lt_of_le U e.ml)).trans (e.rt i U),by have:=e.ml;simp;omega,λx b W E=>?_⟩
 .have:¬x=d:=by omega
  simp only[AI,this,if_false];exact e.dd x W
 .by_cases J:x=d
  .subst J;simp only[AI,if_true];exact hr'
  .simp only[AI,J,if_false]
   exact Rel.mono (λ_ h=>h) (λv cv hv=>Au.ext ok.rt _ _ hv) _ _ _ (λ_ _=>rfl) (e.tm x W)
 .split at E
  .exact E.elim
  .exact e.tD x b E
 .split at Z
  .exact Z
  .rename_i J
   by_cases U:i<σ.length
   .rw[ok.old i U]at E;exact e.tF i x b E Z
   .exact e.tT d x b (Ne.symm J) (ok.new i b (Nat.le_of_not_lt U) E) Z
 .split at h1
  .exact h1
  .split at h2
   .exact h2
   .exact e.tT x y b hxy h1 h2
 .split at E
  .exact E.elim
  .exact e.tn x b E
 .by_cases U:i<σ.length
  .rw[ok.old i U]at E;exact e.Fn i b E
  .exact e.tn d b (ok.new i b (Nat.le_of_not_lt U) E)
 .split at E
  .exact E
  .exact e.tx x b W E
end
theorem PR.close{C:Ctx}:∀(ds:List (Option Nat)) (t:Nat->V) (σ:List V) (ρ:Nat->Value) (F:Nat->Nat->Prop) (T:Nat->Nat->Prop),PR C N σ ρ F t a w D T->
  (∀x b,T x b->some x∈ds)->AR C N (promA ds ⟨t,σ⟩) a w:=by
 intro ds
 induction ds with
 |nil=>
  intro t σ ρ F T E Z;refine⟨E.df,E.dd,D,ρ,F,E.wr,by simpa using E.sz,λx W=>?_,E.fr,E.Fn,E.D1,E.D2,E.rt,E.ml⟩
  have U:x<N:=by simpa using W
  have h1:=E.tm x U;have e:T x=noF:=A6 (λb hb=>by cases Z x b hb)
  rw[e]at h1;rw[AV U];exact h1
 |cons d ds ih=>
  intro t σ ρ F T E Z;cases d with
  |none=>
   refine ih t σ ρ F T E λx b h=>?_
   have:=Z x b h;simpa using this
  |some d=>
   unfold promA;split
   .rename_i J
    have hdn:d<N:=by
     rcases Nat.lt_or_ge d N with h|h
     .exact h
     .simp only[E.dd d h]at J;cases J
    obtain⟨ρ',F',hp'⟩:=E.prom hdn;refine ih _ _ ρ' F' _ hp' λx b h=>?_
    split at h
    .exact h.elim
    grind
   .rename_i J
    refine ih t σ ρ F T E λx b h=>?_
    have:=Z x b h;rcases List.mem_cons.1 this with he|he
    .cases he
     by_cases W:d<N
     .exact absurd h (AE _ _ _ (by simpa using J) (E.tm d W) b)
     .exact absurd h (E.tx d b (Nat.le_of_not_lt W))
    .exact he
end Go.Ve

