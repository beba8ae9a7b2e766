/- Regions that draw their order: quiet operations in whatever order, then a tail in order. -/
import Derived.Test.YtojjlnbnneemaaaVp
import Derived.StillTail
set_option linter.all false
namespace Go.Ve
variable{σ:List V}{op:Op}{ev ev':Operand->V}{P:Program}{K:V->Prop}
theorem Lg(h:∀x∈op.operands,ev x=ev' x)(e:NZ P σ ev op K):NZ P σ ev' op K:=by
 have E:∀ps:Array (Nat×Operand),(∀x∈(ps.toList.map (·.2)).toArray,ev x=ev' x)->(ps.toList.map λp=>(p.1,ev p.2))=ps.toList.map λp=>(p.1,ev' p.2):=by
  intro ps W;apply List.map_congr_left;intro p J;rw[W p.2 (by simp only[List.mem_toArray,List.mem_map];exact⟨p,J,rfl⟩)]
 unfold NZ at e⊢;cases op<;>simp only[Op.operands]at h<;>simp only at e⊢ <;>try exact e
 case call c=>
  obtain⟨callee,args,ats⟩:=c;have J:args.toList.map ev=args.toList.map ev':=List.map_congr_left λx M=>h x (by simp[Call.operands];right;simpa using M)
  cases callee with
  |value f=>
   have U:ev f=ev' f:=h f (by simp[Call.operands])
   cases f<;>simp only at e⊢ <;>first|exact e|(rw[<-J,<-U];exact e)|(rw[<-J];exact e)
  |invoke r m=>
   have U:ev r=ev' r:=h r (by simp[Call.operands])
   simp only at e⊢;rw[<-J,<-U];exact e
  |builtin b=>simp only at e⊢;rw[<-J];exact e
 case build t ps=>rw[<-E ps h];exact e
 case buildSlice t n ps=>rw[<-E ps h];exact e
 case slice t x L O mx=>
  have Z:L.map ev=L.map ev':=by cases L with|none=>rfl|some y=>simp;exact h y (by simp)
  have Y:O.map ev=O.map ev':=by cases O with|none=>rfl|some y=>simp;exact h y (by simp)
  rw[<-Z,<-Y,<-h x (by simp)];exact e
 case makeFunc fn first cs=>
  have J:cs.toList.map ev=cs.toList.map ev':=List.map_congr_left λx M=>h x (by simp;right;simpa using M)
  rw[<-J];exact e
 all_goals (simp at h;simp_all)
theorem Qx(E:NZ P σ ev op K):∃r,K r/\∀K':V->Prop,K' r->NZ P σ ev op K':=by
 unfold NZ at E⊢;cases op<;>simp only at E⊢ <;>try exact E.elim
 case move x=>exact⟨_,E.2,λK' J=>⟨E.1,J⟩⟩
 case assign x=>exact⟨_,E.2,λK' J=>⟨E.1,J⟩⟩
 case pick c x y=>
  unfold WK at E⊢;split at E<;>try exact E.elim
  rename_i b hb;obtain⟨L,M,U,Z⟩:=E;cases b
  .exact⟨_,Z rfl,λK' J=>⟨L,M,(λh=>by cases h),λ_=>J⟩⟩
  .exact⟨_,U rfl,λK' J=>⟨L,M,λ_=>J,(λh=>by cases h)⟩⟩
 case load t x=>
  unfold Iy at E⊢;split at E<;>try exact E.elim
  .split at E<;>try exact E.elim
   .exact⟨_,E.2,λK' J=>⟨E.1,J⟩⟩
   .exact⟨_,E.2,λK' J=>⟨E.1,J⟩⟩
   .exact⟨_,E.2,λK' J=>⟨E.1,J⟩⟩
  .split at E<;>try exact E.elim
   .exact⟨_,E.2,λK' J=>⟨E.1,J⟩⟩
   .exact⟨_,E.2.2,λK' J=>⟨E.1,E.2.1,J⟩⟩
   .exact⟨_,E.2,λK' J=>⟨E.1,J⟩⟩
 case fieldAddr t x k=>
  unfold JV at E⊢;split at E<;>try exact E.elim
  split at E<;>try exact E.elim
  .exact⟨_,E.2,λK' J=>⟨E.1,J⟩⟩
  .exact⟨_,E.2,λK' J=>⟨E.1,J⟩⟩
  .exact⟨_,E.2,λK' J=>⟨E.1,J⟩⟩
 case indexAddr t x i=>
  unfold B7 at E⊢;split at E<;>try exact E.elim
  split at E<;>try exact E.elim
  .exact⟨_,E.2.2.2,λK' J=>⟨E.1,E.2.1,E.2.2.1,J⟩⟩
  .exact⟨_,E.2.2.2,λK' J=>⟨E.1,E.2.1,E.2.2.1,J⟩⟩
 case index t x i=>
  unfold Qz Mt at E⊢;rcases E with⟨L,E⟩|⟨L,E⟩
  .split at E<;>try exact E.elim
   exact⟨_,E.2,λK' J=>.inl ⟨L,E.1,J⟩⟩
  .split at E<;>try exact E.elim
   exact⟨_,E.2.2.2,λK' J=>.inr ⟨L,E.1,E.2.1,E.2.2.1,J⟩⟩
 case nilCheck x=>
  unfold Abk at E⊢;split at E<;>try exact E.elim
  .exact⟨_,E,λK' J=>J⟩
  .exact⟨_,E,λK' J=>J⟩
  .exact⟨_,E.2,λK' J=>⟨E.1,J⟩⟩
 case binOp op t x y yt=>
  unfold UY at E⊢;split at E
  .split at E
   .rename_i h;exact⟨_,E.2,λK' J=>by first|exact⟨E.1,J⟩|(simp only[h];exact⟨E.1,J⟩)⟩
   .rename_i h;obtain⟨z,L,M,U,O⟩:=E;exact⟨z,O,λK' J=>by first|exact⟨z,L,M,U,J⟩|(simp only[h];exact⟨z,L,M,U,J⟩)⟩
  .obtain⟨z,L,M,U,O⟩:=E;exact⟨z,O,λK' J=>⟨z,L,M,U,J⟩⟩
 case unOp op t x=>
  unfold qUn at E⊢;split at E<;>try exact E.elim
  .exact⟨_,E,λK' J=>J⟩
  .exact⟨_,E,λK' J=>J⟩
 case convert s d x=>
  cases Y:cvB P s d with
  |some e=>
   unfold DI at E⊢;simp only[Y]at E⊢;split at E
   .exact⟨_,E.2,λK' J=>by first|exact⟨E.1,J⟩|(simp only[*];exact⟨E.1,J⟩)⟩
   .exact E.elim
   .contradiction
  |none=>
  unfold DI at E⊢;simp only[Y]at E⊢;unfold N6 at E⊢;split at E
  .exact⟨_,E,λK' J=>J⟩
  .exact⟨_,E,λK' J=>J⟩
  .split at E
   .rename_i h;exact⟨_,E,λK' J=>by first|exact J|(simp only[h];exact J)⟩
   .exact E.elim
  .obtain⟨z,L,M,O⟩:=E;exact⟨z,O,λK' J=>⟨z,L,M,J⟩⟩
 case extract x i=>
  unfold CD at E⊢;split at E<;>try exact E.elim
  exact⟨_,E.2.2,λK' J=>⟨E.1,E.2.1,J⟩⟩
 case build t ps=>
  unfold Lj at E⊢;split at E<;>try exact E.elim
  obtain⟨L,E⟩:=E;split at E<;>try exact E.elim
  rename_i h;exact⟨_,E,λK' J=>⟨L,J⟩⟩
 case buildSlice t n ps=>
  unfold B8 at E⊢;split at E<;>try exact E.elim
  obtain⟨L,M,E⟩:=E;split at E<;>try exact E.elim
  rename_i h;exact⟨_,E.2,λK' J=>⟨L,M,E.1,J⟩⟩
 case alloc t=>
  unfold Od at E⊢;split at E<;>try exact E.elim
  exact⟨_,E.2,λK' J=>⟨E.1,J⟩⟩
 case box t x=>
  obtain⟨L,M|M⟩:=E
  .exact⟨_,M.2,λK' J=>⟨L,.inl ⟨M.1,J⟩⟩⟩
  .exact⟨_,M,λK' J=>⟨L,.inr J⟩⟩
 case makeSlice t l c=>
  unfold WM at E⊢;split at E<;>try exact E.elim
  exact⟨_,E.2.2,λK' J=>⟨E.1,E.2.1,J⟩⟩
 case slice t x lo hi mx=>
  obtain⟨W,E⟩:=E;unfold Lh at E⊢;split at E<;>try exact E.elim
  all_goals
   split at E<;>try exact E.elim
   rename_i L M
  .exact⟨_,E.2,λK' J=>⟨W,E.1,J⟩⟩
  .exact⟨_,E.2.2,λK' J=>⟨W,E.1,E.2.1,J⟩⟩
  .exact⟨_,E.2.2,λK' J=>⟨W,E.1,E.2.1,J⟩⟩
 case call c=>
  obtain⟨callee,args,ats⟩:=c;simp only at E⊢;split at E
  .obtain⟨r,L,M,O⟩:=E;exact⟨r,O,λK' J=>⟨r,L,M,J⟩⟩
  .unfold N8 at E⊢
   split at E
   case h_2=>exact E.elim
   obtain⟨W,r,L,M,O⟩:=E;exact⟨r,O,λK' J=>⟨W,r,L,M,J⟩⟩
  .unfold Mu at E⊢
   split at E<;>try exact E.elim
   .rcases E with⟨L,E⟩|⟨L,l,M,E⟩
    case inr=>exact⟨_,E,λK' J=>.inr ⟨L,l,M,J⟩⟩
    unfold qLen at E⊢;split at E<;>first|exact E.elim|exact⟨_,E,λK' J=>.inl ⟨L,J⟩⟩
   .unfold DW at E⊢
    split at E<;>first|exact E.elim|exact⟨_,E,λK' J=>J⟩
   .unfold DW at E⊢
    split at E<;>first|exact E.elim|exact⟨_,E,λK' J=>J⟩
  .unfold Oa at E⊢
   split at E
   case h_2=>exact E.elim
   obtain⟨t,fn,W,r,L,M,O⟩:=E;exact⟨r,O,λK' J=>⟨t,fn,W,r,L,M,J⟩⟩
  .exact E.elim
 case makeInterface t x=>exact⟨_,E.2,λK' J=>⟨E.1,J⟩⟩
 case makeMap t n=>exact⟨_,E.2,λK' J=>⟨E.1,J⟩⟩
 case lookup t x i co=>
  obtain⟨kt,et,l,k,z,L,M,U,Z,h5,h6,h7,O⟩:=E;exact⟨_,O,λK' J=>⟨kt,et,l,k,z,L,M,U,Z,h5,h6,h7,J⟩⟩
 case makeFunc fn first cs=>
  split at E
  case h_2=>exact E.elim
  exact⟨_,E.2,λK' J=>⟨E.1,J⟩⟩
def WI(h:∀x∈op.operands,ev x=ev' x)(e:qop P σ ev op K):qop P σ ev' op K:=Lg h e
def WH(E:qop P σ ev op K):∃r,K r/\qop P σ ev op (λr'=>r'=r):=by
 obtain⟨r0,⟨r,e,J⟩,hd⟩:=Qx E;exact⟨r,J,hd _ ⟨r,e,rfl⟩⟩
theorem NY{K':V->Prop}(e:NZ P σ ev op K)(h:∀r,K r->K' r):NZ P σ ev op K':=by
 obtain⟨r,E,hd⟩:=Qx e
 grind
end Go.Ve


namespace Go.Ve
variable{a:Act}{ops:Array Oper}{C:Ctx}{h:Cz}{σ:List V}{N i j n x y:Nat}{B F T:Nat->Nat->Prop}{A D fp:Nat->Prop}{t:Nat->V}{ρ:Nat->Value}{o:Oper}{w:World}
def QK(h:Cz)(d:Option Nat)(t:Nat->V)(K:(Nat->V)->Prop)(r:V):Prop:=
 match d with
 |some d=>d<h.n/\K (AJ t d (if h.fz.contains d then frz r else r))
 |none=>False
def KK(t:Nat->V)(d:Option Nat):Nat->V:=
 match d with
 |some d=>AJ t d udV
 |none=>t
def YS(ops:Array Oper)(y:Nat):Bool:=decide (((List.range ops.size).filter λj=>match ops[j]? with
 |some o=>(o.looksAt ops).contains y
 |none=>false).length<=1)
def AK(ops:Array Oper)(i:Nat):Option Nat:=(ops[i]?).bind (·.dst)
def mvB(ops:Array Oper)(o:Oper)(y:Nat):Bool:=(o.looksAt ops).contains y&&YS ops y&&o.after.toList.any λe=>Region.binds .any e&&(match AK ops e.on with
 |some d=>Nat.beq d y
 |none=>false)
def OD(c:Nat):V->V
 |.many t n f=>.many t n λk=>if k=c then .dead else f k
 |v=>v
inductive Tk where
 |all
 |part (c:Nat)
 |put (v:V)
variable{m:Nat->List (Nat×Tk)}
def Tk.isPart:Tk->Bool
 |.part _=>true
 |_=>false
def hdV:V->V
 |.nd true true _ n _=>.nd true false 0 n λ_ _=>.dead
 |_=>.dead
theorem Rel.hd{R:V->Value->Prop}{v:V}{cv:Value}(h:Rel D w R v cv fp):Rel D w R (hdV v) cv noF:=by
 unfold hdV;split
 .rcases h with⟨W,U,O,_⟩|⟨b,o,cap,F,L,E,e,M,_⟩
  .exact .inl ⟨W,U,QP O,λ_ h=>h⟩
  .exact .inr ⟨b,o,cap,λ_ _=>noF,L,E,e,M,λ_ _ _ J=>absurd J (Nat.not_lt_zero _),λ_=>⟨λh=>absurd h (by simp),λ_ _ _ _ J=>absurd J (Nat.not_lt_zero _),λ_ h=>h⟩,λh=>by grind⟩
 .exact λ_ h=>h
def kapp(e:Tk)(v:V):V:=match e with
 |.all=>.dead
 |.part c=>OD c v
 |.put u=>u
def Im(o:Option Tk)(v:V):V:=match o with
 |some e=>kapp e v
 |none=>v
theorem Vg(a b:Nat)(v:V):OD a (OD b v)=OD b (OD a v):=by
 cases v<;>try rfl
 show V.many _ _ _=V.many _ _ _
 grind
def Xi(a b:Option Tk)(v:V)(h:∀x y,a=some x->b=some y->x.isPart=true/\y.isPart=true):Im a (Im b v)=Im b (Im a v):=by
 cases a with
 |none=>rfl
 |some x=>
  cases b with
  |none=>rfl
  |some y=>
   obtain⟨E,e⟩:=h x y rfl rfl;cases x<;>first|trivial|skip
   cases y<;>first|cases e|rfl
   exact Vg _ _ _
def Bp:List (Nat×Tk)->Nat->Option Tk
 |[],_=>none
 |(y,tk)::l,x=>if y=x then some tk else Bp l x
def CW:∀{l:List (Nat×Tk)}{x:Nat}{e:Tk},Bp l x=some e->(x,e)∈l
 |[],_,_,h=>by cases h
 |(y,tk')::l,x,e,h=>by
  unfold Bp at h;split at h
  .grind
  .exact mCM _ (CW h)
def AV(ys:List (Nat×Tk))(t:Nat->V):Nat->V:=λx=>Im (Bp ys x) (t x)
def D8(t:Nat->V):AV [] t=t:=rfl
def Hn(ops:Array Oper)(y:Nat):Bool:=(List.range ops.size).all λj=>match AK ops j with
 |some d=>!Nat.beq d y
 |none=>true
def mvR(ops:Array Oper)(o:Oper)(y:Nat):Bool:=(o.looksAt ops).contains y&&YS ops y&&Hn ops y
def MF(ops:Array Oper)(y:Nat):List Nat:=(List.range ops.size).filter λj=>match ops[j]? with
 |some o=>(o.looksAt ops).contains y
 |none=>false
def LG(ops:Array Oper):List Nat->Bool
 |[]=>true
 |i::l=>(match l with
  |[]=>true
  |j::_=>Region.waitsFor .any ops j i)&&LG ops l
def mvC(ops:Array Oper)(o:Oper)(y:Nat):Bool:=(o.looksAt ops).contains y&&Hn ops y&&LG ops (MF ops y)
def Hu(op:Op):List Nat:=op.operands.toList.filterMap λx=>match x with
 |.tmp y=>some y
 |_=>none
def isFn:Op->Bool
 |.call c=>match c.callee with
  |.value (.func _)=>true
  |_=>false
 |_=>false
def alM(h:Cz)(ops:Array Oper)(o:Oper):Bool:=o.guard.isNone&&(match o.op,o.dst with
 |.move (.tmp y),some z=>h.fz.contains (3000000+y)&&Hn ops y&&ops.toList.any λc=>isFn c.op&&(Hu c.op).contains z
 |_,_=>false)
def alB(h:Cz)(ops:Array Oper)(o:Oper)(y:Nat):Bool:=o.after.toList.any λe=>Region.binds .any e&&(match ops[e.on]? with
 |some c=>alM h ops c&&(match c.op,c.dst with
  |.move (.tmp y'),some z=>Nat.beq y' y&&(Hu o.op).contains z
  |_,_=>false)
 |none=>false)
def alU(h:Cz)(ops:Array Oper)(y:Nat):List Nat:=(List.range ops.size).filter λj=>match ops[j]? with
 |some o=>alB h ops o y
 |none=>false
def Ut(h:Cz)(ops:Array Oper)(o:Oper)(p:Nat×Tk):Bool:=!p.2.isPart&&alB h ops o p.1&&Hn ops p.1&&LG ops (alU h ops p.1)&&(List.range ops.size).all λj=>match ops[j]? with
 |some oj=>!(oj.looksAt ops).contains p.1||alM h ops oj
 |none=>true
def AlP(h:Cz)(ops:Array Oper)(o:Oper)(z y:Nat):Prop:=∃e∈o.after,Region.binds .any e=true/\∃c,ops[e.on]? =some c/\alM h ops c=true/\c.op=.move (.tmp y)/\c.dst=some z
def WS(ops:Array Oper)(i j:Nat):Prop:=j<i/\∀listed:Array Bool,(∀k ok,ops[k]? =some ok->listed.getD k false=true->∀e∈ok.after,Region.binds .any e=true->listed.getD e.on false=true)->
 (∀oi,ops[i]? =some oi->∀e∈oi.after,Region.binds .any e=true->listed.getD e.on false=true)->listed.getD j false=true
theorem WS.of(M:∀o e,ops[i]? =some o->e∈o.after->Region.binds .any e=true->e.on<i)(h:Region.waitsFor .any ops i j=true):WS ops i j:=by
 obtain⟨o,ho,e,E,L,J⟩:=Region.waitsFor_spec h;exact⟨J▸M o e ho E L,λlisted _ O=>J▸O o ho e E L⟩
theorem WS.trans{k:Nat}(W:∃o,ops[j]? =some o)(h:WS ops i j)(L:WS ops j k):WS ops i k:=by
 refine⟨Nat.lt_trans L.1 h.1,λlisted J M=>L.2 listed J λoj E e O U=>?_⟩
 exact J j oj E (h.2 listed J M) e O U
theorem WS.listed{ops:Array Oper}{i j:Nat}(h:WS ops i j){listed:Array Bool}(J:∀k ok,ops[k]? =some ok->listed.getD k false=true->∀e∈ok.after,Region.binds .any e=true->listed.getD e.on false=true)(L:listed.getD i false=true):listed.getD j false=true:=
 h.2 listed J λoi E e M O=>J i oi E L e M O
theorem Ks{ops:Array Oper}(L:∀j o e,ops[j]? =some o->e∈o.after->Region.binds .any e=true->e.on<j):∀{l:List Nat},LG ops l=true->(∀i∈l,∃o,ops[i]? =some o)->l.Pairwise λi j=>WS ops j i
 |[],_,_=>List.Pairwise.nil
 |i::l,h,hs=>by
  unfold LG at h;rw[bAE]at h;have J:=Ks L h.2 λi M=>hs i (mCM _ M)
  refine List.pairwise_cons.2 ⟨λk E=>?_,J⟩
  cases l with
  |nil=>grind
  |cons j l=>
   have O:=WS.of (L j) h.1;rcases List.mem_cons.1 E with rfl|E
   .grind
   .exact((List.pairwise_cons.1 J).1 k E).trans (hs j (by simp)) O
theorem Vv{oi oj:Oper}(hb:∀j o e,ops[j]? =some o->e∈o.after->Region.binds .any e=true->e.on<j)(h:LG ops (MF ops y)=true)(hi:ops[i]? =some oi)(M:y∈oi.looksAt ops)(hj:ops[j]? =some oj)(L:y∈oj.looksAt ops):j=i\/WS ops i j\/WS ops j i:=by
 have E:∀k ok,ops[k]? =some ok->y∈ok.looksAt ops->k∈MF ops y:=by
  intro k ok O Z;unfold MF
  grind
 have Y:=Ks hb h λk O=>by
  have O:=List.mem_range.1 (List.mem_filter.1 O).1;exact⟨ops[k],by simp⟩
 obtain⟨a,ha,W⟩:=List.getElem_of_mem (E i oi hi M);obtain⟨b,J,U⟩:=List.getElem_of_mem (E j oj hj L);rcases Nat.lt_trichotomy a b with hlt|heq|hlt
 .have:=List.pairwise_iff_getElem.1 Y a b ha J hlt
  rw[W,U]at this;exact .inr (.inr this)
 .subst heq
  exact .inl (U.symm.trans W)
 .have:=List.pairwise_iff_getElem.1 Y b a J ha hlt
  rw[W,U]at this;exact .inr (.inl this)
theorem CU(h:Hn ops y=true):∀j,AK ops j≠some y:=by
 intro j E;have e:j<ops.size:=by
  rcases Nat.lt_or_ge j ops.size with h|h
  .omega
  .unfold AK at E
   grind
 have:=aET.1 h j (List.mem_range.2 e)
 simp_all
def exB(ops:Array Oper)(o:Oper)(y c:Nat):Bool:=(o.looksAt ops).contains y&&((List.range ops.size).all λj=>match ops[j]? with
 |some oj=>!(oj.looksAt ops).contains y||(oj.guard.isNone&&(match oj.op with
  |.extract (.tmp y') c'=>Nat.beq y' y&&(!Nat.beq c' c||oj.dst==o.dst)
  |_=>false))
 |none=>true)&&o.after.toList.any λe=>Region.binds .any e&&(match AK ops e.on with
 |some d=>Nat.beq d y
 |none=>false)
def JE(ops:Array Oper)(o:Oper)(p:Nat×Tk):Bool:=match p.2 with
 |.all=>mvB ops o p.1
 |.part c=>exB ops o p.1 c
 |.put _=>mvB ops o p.1||mvR ops o p.1||mvC ops o p.1
structure PR(C:Ctx)(N:Nat)(σ:List V)(ρ:Nat->Value)(F:Nat->Nat->Prop)(t:Nat->V)(a:Act)(w:World)(D:Nat->Prop)(T:Nat->Nat->Prop):Prop where
 df:a.defers=[]
 sz:a.tmps.size=N
 dd:∀x,N<=x->t x=.dead
 wr:Bs σ w D ρ F
 tm:∀x,x<N->Rel D w (Am σ ρ w) (t x) (a.tmps.getD x undef) (T x)
 tD:∀x b,T x b->¬D b
 tF:∀i x b,F i b->¬T x b
 tT:∀x y b,x≠y->T x b->¬T y b
 tn:∀x b,T x b->C.W b\/C.w0.heap.size<=b
 fr:Fr C.w0 w C.W
 Fn:∀i b,F i b->C.W b\/C.w0.heap.size<=b
 D1:∀b,C.D0 b->D b
 D2:∀b,D b->b<C.w0.heap.size->C.D0 b\/C.W b
 rt:∀i,i<C.m->ρ i=C.ρ0 i
 ml:C.m<=σ.length
 tx:∀x b,N<=x->¬T x b
def mq(t:Nat->V)(o:Oper)(ys:List (Nat×Tk))(r:V):Prop:=
 (∃y,(o.op=.assign (.tmp y)\/o.op=.move (.tmp y))/\ys=[(y,.put (hdV r))]/\r=t y)\/
 ∃y c n f,o.op=.extract (.tmp y) c/\ys=[(y,.part c)]/\t y=.many .tu n f/\c<n/\r=f c
def I1(d:Option Nat)(r:V)(t:Nat->V):Nat->V:=match d with
 |some d=>AJ t d r
 |none=>t
def U4:Op->Bool
 |.extract _ _=>false
 |_=>true
def PR.ok{C:Ctx}{N:Nat}{σ:List V}{ρ:Nat->Value}{F:Nat->Nat->Prop}{t:Nat->V}{a:Act}{w:World}{D:Nat->Prop}{T:Nat->Nat->Prop}(h:PR C N σ ρ F t a w D T):Wok w:=
 C.ok.1.same λp e=>h.fr.block p.1 (C.ok.1.lt e) (C.ok.2 p e)
def LQ(P:Program)(N:Nat)(σ:List V)(Al:Nat->Nat->Prop)(o:Oper)(t:Nat->V)(ys:List (Nat×Tk))(r:V):Prop:=
 ∀(C:Ctx) (ρ:Nat->Value) (F:Nat->Nat->Prop) (a:Act) (w:World) (D:Nat->Prop) (T:Nat->Nat->Prop) (e:Nat->V),(∀x,(x∈Hu o.op\/Bp ys x≠none)->e x=t x)->(∀z y,Al z y->a.tmps.getD z undef=a.tmps.getD y undef)->PR C N σ ρ F e a w D T->
  ∀(next:Act->World->Prop) (Q:Exit->Act->World->Prop),(∀E w' D' T',PR C N σ ρ F (I1 o.dst r (AV ys e)) E w' D' T'->(∀x b,T' x b->o.dst=some x\/∃J,T x J)->(∀x,o.dst≠some x->E.tmps[x]? =a.tmps[x]?)->next E w')->o.wp P a w next Q
def vq(P:Program)(h:Cz)(ops:Array Oper)(σ:List V):List Oper->((Nat->V)->Prop)->(Nat->V)->Prop
 |[],K,t=>K t
 |o::rest,K,t=>match o.guard with
  |none=>(alM h ops o=false/\(qop P σ (Ms.ev ⟨t,σ⟩) o.op (QK h o.dst t (vq P h ops σ rest K))\/(∃ys d r,o.dst=some d/\d<h.n/\h.fz.contains d=false/\(∀p∈ys,JE ops o p=true)/\mq t o ys r/\vq P h ops σ rest K (AJ (AV ys t) d r))\/
   ∃ys r,(∀p∈ys,JE ops o p=true\/Ut h ops o p=true)/\U4 o.op=true/\LQ P h.n σ (AlP h ops o) o t ys r/\vq P h ops σ rest K (I1 o.dst r (AV ys t))))\/
   (alM h ops o=true/\∃d,o.dst=some d/\d<h.n/\vq P h ops σ rest K (AJ t d .dead))
  |some (j,want)=>match gv t ops j with
   |.c (.bool b)=>(b=want->qop P σ (Ms.ev ⟨t,σ⟩) o.op (QK h o.dst t (vq P h ops σ rest K)))/\(b=(!want)->(∀d,o.dst=some d->d<h.n)/\vq P h ops σ rest K (KK t o.dst))
   |v=>v=udV/\(∀d,o.dst=some d->d<h.n)/\vq P h ops σ rest K (KK t o.dst)
def gskip(v:V)(e:Bool):Prop:=v=.c (.bool (!e))\/v=udV
def promA:List (Option Nat)->Ms->Ms
 |[],S=>S
 |none::ds,S=>promA ds S
 |some d::ds,S=>if AS (S.t d)then promA ds ⟨AJ S.t d (prom (S.t d) S.σ.length).1,S.σ++(prom (S.t d) S.σ.length).2⟩else promA ds S
def Z3:Op->Bool
 |.select _ _=>false
 |_=>true
def flB(ops:Array Oper)(n f:Nat):Bool:=(List.range n).all (λi=>i==f||Region.waitsFor .any ops n i)&&match ops[f]? with
 |some o=>o.guard.isNone&&match o.op,o.dst with
  |.extract (.tmp y) _,some d=>(List.range ops.size).all λt=>decide (t<n)||Region.waitsFor .any ops t f||match ops[t]? with
   |some ot=>!(ot.looksAt ops).contains d&&ot.dst !=some d&&ot.dst !=some y&&Z3 ot.op
   |none=>true
  |_,_=>false
 |none=>false
structure FL(ops:Array Oper)(n f:Nat):Prop where
 fn:f<n
 others:∀i,i<n->i≠f->Region.waitsFor .any ops n i=true
 it:∃o y c d,ops[f]? =some o/\o.guard=none/\o.op=.extract (.tmp y) c/\o.dst=some d/\∀t ot,n<=t->ops[t]? =some ot->Region.waitsFor .any ops t f=false->d∉ot.looksAt ops/\ot.dst≠some d/\ot.dst≠some y/\∀cs b,ot.op≠.select cs b
theorem Zi{f:Nat}(Z:f<n)(h:flB ops n f=true):FL ops n f:=by
 unfold flB at h;rw[bAE]at h;obtain⟨h1,E⟩:=h;refine⟨Z,λi hi U=>?_,?_⟩
 .grind
 .split at E
  case h_2=>cases E
  rename_i o ho;rw[bAE]at E;obtain⟨Y,E⟩:=E;split at E
  case h_2=>cases E
  rename_i y c d L hd;refine⟨o,y,c,d,ho,by simpa using Y,L,hd,λt ot ht J O=>?_⟩
  have:=aET.1 E t (List.mem_range.2 (Array.getElem?_eq_some_iff.1 J).1);rw[J,O]at this;have M:¬t<n:=by omega
  simp only[M,decide_false,Bool.false_or,bAE,Bool.not_eq_true',bne_iff_ne,ne_eq]at this;obtain⟨⟨⟨g1,g2⟩,g3⟩,g4⟩:=this;refine⟨λW=>?_,g2,g3,λcs b e=>?_⟩
  .have:(ot.looksAt ops).contains d=true:=by simpa using W
   rw[g1]at this;cases this
  .rw[e]at g4;cases g4
def Qw(ops:Array Oper)(n:Nat):Bool:=
 decide (n<=ops.size)&&
 (List.range n).all (λi=>match ops[i]? with
  |none=>false
  |some oi=>match oi.dst with
   |none=>true
   |some d=>!(oi.looksAt ops).contains d&&(List.range n).all λj=>j==i||match ops[j]? with
    |none=>false
    |some oj=>oj.dst !=some d&&(!(oj.looksAt ops).contains d||Region.waitsFor .any ops j i))&&
 (List.range ops.size).all (λj=>match ops[j]? with
  |some o=>o.after.toList.all λe=>!Region.binds .any e||decide (e.on<j)
  |none=>false)
def Ix(ops:Array Oper)(n:Nat):Bool:=
 Qw ops n&&(n==ops.size||(Region.chainB .any ops n&&(Region.sinkB .any ops n||(List.range n).any (flB ops n))))
structure QOK(ops:Array Oper)(n:Nat):Prop where
 le:n<=ops.size
 dst:∀i,i<n->∃oi,ops[i]? =some oi/\∀d,oi.dst=some d->d∉oi.looksAt ops
 ne:∀i j d oj,i<n->j<n->i≠j->AK ops i=some d->ops[j]? =some oj->oj.dst≠some d/\(d∈oj.looksAt ops->∃e∈oj.after,Region.binds .any e=true/\e.on=i)
 back:∀j o e,ops[j]? =some o->e∈o.after->Region.binds .any e=true->e.on<j
def Um(ops:Array Oper)(n:Nat):Prop:=n=ops.size\/(Region.chainB .any ops n=true/\(Region.sinkB .any ops n=true\/∃f,FL ops n f))
theorem JT(h:Qw ops n=true):QOK ops n:=by
 simp only[Qw,bAE,decide_eq_true_eq]at h;obtain⟨⟨h1,h2⟩,h3⟩:=h
 have hd:∀i,i<n->∃oi,ops[i]? =some oi/\∀d,oi.dst=some d->d∉oi.looksAt ops/\∀j,j<n->j≠i->∃oj,ops[j]? =some oj/\oj.dst≠some d/\(d∈oj.looksAt ops->Region.waitsFor .any ops j i=true):=by
  intro i Y;have:=aET.1 h2 i (List.mem_range.2 Y);split at this
  .cases this
  .rename_i oi L
   refine⟨oi,L,λd hd=>?_⟩
   rw[hd]at this
   .simp only[bAE,Bool.not_eq_true']at this
    obtain⟨ha,Z⟩:=this;refine⟨by simpa using ha,λj M hne=>?_⟩
    have E:=aET.1 Z j (List.mem_range.2 M);simp only[Bool.or_eq_true,beq_iff_eq,hne,false_or]at E;split at E
    .cases E
    .rename_i oj J
     simp only[bAE,bne_iff_ne,ne_eq,Bool.or_eq_true,Bool.not_eq_true']at E;refine⟨oj,J,E.1,λhm=>?_⟩
     rcases E.2 with h|h
     .simp at h;exact absurd hm h
     .exact h
 refine⟨h1,λi Y=>?_,λi j d oj Y M hij hdi J=>?_,λj o e M he Z=>?_⟩
 .obtain⟨oi,a,b⟩:=hd i Y;exact⟨oi,a,λd h=>(b d h).1⟩
 .obtain⟨oi,L,hd'⟩:=hd i Y
  have hdd:oi.dst=some d:=by simpa [AK,L]using hdi
  obtain⟨_,hall⟩:=hd' d hdd;obtain⟨O,W,g1,g2⟩:=hall j M (Ne.symm hij);have:O=oj:=Option.some.inj (W.symm.trans J);subst this;refine⟨g1,λhm=>?_⟩
  obtain⟨oj2,U,e,he,Z,hon⟩:=Region.waitsFor_spec (g2 hm);have:oj2=O:=Option.some.inj (U.symm.trans J);subst this;exact⟨e,he,Z,hon⟩
 .have hlt:j<ops.size:=(Array.getElem?_eq_some_iff.1 M).1
  have:=aET.1 h3 j (List.mem_range.2 hlt);rw[M]at this;have:=aET.1 this e (by simpa using he)
  simp[Z]at this;exact this
theorem NW(h:Ix ops n=true):QOK ops n/\Um ops n:=by
 simp only[Ix,bAE,Bool.or_eq_true,beq_iff_eq]at h;refine⟨JT h.1,?_⟩;have e:=h.2;rcases e with e|⟨e,E|E⟩
 .exact .inl e
 .exact .inr ⟨e,.inl E⟩
 .obtain⟨f,J,L⟩:=List.any_eq_true.1 E
  exact .inr ⟨e,.inr ⟨f,Zi (List.mem_range.1 J) L⟩⟩
def AcD:Op->Bool
 |.fieldAddr _ _ _=>true
 |.load _ _=>true
 |.move _=>true
 |.indexAddr _ _ _=>true
 |_=>false
def flsB(ops:Array Oper)(n:Nat)(fs:List Nat):Bool:=decide (n+1<ops.size)&&Region.chainB .any ops n&&fs.all (λf=>decide (f<n)&&Region.waitsFor .any ops (n+1) f)&&
 (List.range n).all (λi=>fs.contains i||(List.range (n+1)).any λj=>decide (i<j)&& !fs.contains j&&Region.waitsFor .any ops j i)&&
 match ops[n]? with
 |some on=>on.guard.isNone&&Z3 on.op&&match on.dst with
  |some dn=>fs.all λf=>match ops[f]? with
   |some o=>o.guard.isNone&&AcD o.op&&match o.dst with
    |some d=>!(on.looksAt ops).contains d&&dn !=d&& !(o.looksAt ops).contains dn
    |none=>false
   |none=>false
  |none=>false
 |none=>false
structure FLS(ops:Array Oper)(n:Nat)(fs:List Nat):Prop where
 lt1:n+1<ops.size
 chain:Region.chainB .any ops n=true
 lt:∀f∈fs,f<n/\Region.waitsFor .any ops (n+1) f=true
 others:∀i,i<n->i∉fs->∃j,i<j/\j<=n/\j∉fs/\Region.waitsFor .any ops j i=true
 it:∃on dn,ops[n]? =some on/\on.guard=none/\on.dst=some dn/\(∀cs b,on.op≠.select cs b)/\∀f∈fs,∃o d,ops[f]? =some o/\o.guard=none/\AcD o.op=true/\o.dst=some d/\d∉on.looksAt ops/\dn≠d/\dn∉o.looksAt ops
theorem Xy{fs:List Nat}(h:flsB ops n fs=true):FLS ops n fs:=by
 unfold flsB at h;simp only[bAE,decide_eq_true_eq]at h;obtain⟨⟨⟨⟨h1,Z⟩,h3⟩,h4⟩,h5⟩:=h;refine⟨h1,Z,λf L=>?_,λi Y hn=>?_,?_⟩
 .have:=aET.1 h3 f L
  simpa using this
 .have:=aET.1 h4 i (List.mem_range.2 Y)
  rw[Bool.or_eq_true]at this;rcases this with h|h
  .exact absurd (by simpa using h) hn
  .obtain⟨j,W,E⟩:=List.any_eq_true.1 h
   simp only[bAE,decide_eq_true_eq,Bool.not_eq_true']at E;have:=List.mem_range.1 W;exact⟨j,E.1.1,by omega,by simpa using E.1.2,E.2⟩
 .split at h5
  case h_2=>cases h5
  rename_i on J;rw[bAE,bAE]at h5;obtain⟨⟨g1,g2⟩,h5⟩:=h5;split at h5
  case h_2=>cases h5
  rename_i dn M;refine⟨on,dn,J,by simpa using g1,M,(λcs b e=>by rw[e]at g2;cases g2),λf L=>?_⟩
  have:=aET.1 h5 f L;split at this
  case h_2=>cases this
  rename_i o ho;rw[bAE,bAE]at this;obtain⟨⟨k1,k2⟩,this⟩:=this;split at this
  case h_2=>cases this
  rename_i d hd;simp only[bAE,Bool.not_eq_true',bne_iff_ne,ne_eq]at this;obtain⟨⟨U,O⟩,m3⟩:=this;exact⟨o,d,ho,by simpa using k1,k2,hd,by simpa using U,O,by simpa using m3⟩
def Jl(P:Program)(h:Cz)(ops:Array Oper)(σ:List V)(o:Oper)(t:Nat->V)(r:V)(ys:List (Nat×Tk)):Prop:=
 (alM h ops o=false/\((∃d:Nat,o.dst=some d/\
  (((d<h.n/\((o.guard=none\/∃j e,o.guard=some (j,e)/\gv t ops j=.c (.bool e))/\∃r',qop P σ (Ms.ev ⟨t,σ⟩) o.op (λx=>x=r')/\r=(if h.fz.contains d then frz r' else r'))\/
   (∃j e,o.guard=some (j,e)/\gskip (gv t ops j) e/\d<h.n/\r=udV))/\ys=[])\/
   (d<h.n/\o.guard=none/\h.fz.contains d=false/\(∀p∈ys,JE ops o p=true)/\mq t o ys r)))\/
 (o.guard=none/\(∀p∈ys,JE ops o p=true\/Ut h ops o p=true)/\U4 o.op=true/\LQ P h.n σ (AlP h ops o) o t ys r)\/
 (∃j e,o.guard=some (j,e)/\gskip (gv t ops j) e/\o.dst=none/\ys=[])))\/
 (alM h ops o=true/\∃d,o.dst=some d/\d<h.n/\r=.dead/\ys=[])
theorem Ds{g:Nat×Bool}(e:o.guard=some g):alM h ops o=false:=by
 unfold alM;grind
theorem Nf(E:alM h ops o=true):o.guard=none/\∃y z,o.op=.move (.tmp y)/\o.dst=some z/\∀j,AK ops j≠some y:=by
 unfold alM at E;rw[bAE]at E;refine⟨by simp_all,?_⟩
 have J:=E.2;split at J
 .rename_i y z e hd
  simp at J;exact⟨y,z,e,hd,CU J.1.2⟩
 grind
def Ch(ops:Array Oper)(r:Nat->V)(m:Nat->List (Nat×Tk))(t:Nat->V):Nat->(Nat->V)
 |0=>t
 |i+1=>I1 (AK ops i) (r i) (AV (m i) (Ch ops r m t i))
theorem Yf{P:Program}{h:Cz}{σ:List V}{t0:Nat->V}{K:(Nat->V)->Prop}(hn:n<=ops.size)(hq:QOK ops n):∀(k i:Nat) (r:Nat->V) (m:Nat->List (Nat×Tk)),i+k=n->
  vq P h ops σ ((ops.toList.drop i).take k) K (Ch ops r m t0 i)->(∀j,j<i->∀o,ops[j]? =some o->Jl P h ops σ o (Ch ops r m t0 j) (r j) (m j))->
  ∃(r':Nat->V) (U:Nat->List (Nat×Tk)),(∀j,j<n->∀o,ops[j]? =some o->Jl P h ops σ o (Ch ops r' U t0 j) (r' j) (U j))/\K (Ch ops r' U t0 n):=by
 intro k
 induction k with
 |zero=>
  intro i r m hi J hs;obtain rfl:i=n:=by omega
  simp[vq]at J;exact⟨r,m,hs,J⟩
 |succ k ih=>
  intro i r m hi J hs;have O:i<ops.toList.length:=by simp;omega
  rw[List.drop_eq_getElem_cons O,List.take_succ_cons]at J;obtain⟨oi,Z,hnl⟩:=hq.dst i (by omega)
  have hdo:AK ops i=oi.dst:=by simp[AK,Z]
  have he:ops.toList[i]=oi:=by
   have:=Z;rw[<-Array.getElem?_toList,gEE O]at this;exact Option.some.inj this
  rw[he]at J
  -- go on with the value v at place i
  have go:∀v ys,Jl P h ops σ oi (Ch ops r m t0 i) v ys->vq P h ops σ ((ops.toList.drop (i+1)).take k) K (I1 oi.dst v (AV ys (Ch ops r m t0 i)))->∃(r':Nat->V) (U:Nat->List (Nat×Tk)),(∀j,j<n->∀o,ops[j]? =some o->Jl P h ops σ o (Ch ops r' U t0 j) (r' j) (U j))/\K (Ch ops r' U t0 n):=by
   intro v ys hst J
   have same:∀j,j<=i->Ch ops (λx=>if x=i then v else r x) (λx=>if x=i then ys else m x) t0 j=Ch ops r m t0 j:=by
    intro j
    induction j with
    |zero=>intro _;rfl
    |succ j ihj=>
     intro hj;have h1:j≠i:=by omega
     simp only[Ch,ihj (by omega),h1,if_false]
   refine ih (i+1) (λx=>if x=i then v else r x) (λx=>if x=i then ys else m x) (by omega) ?_ ?_
   .have:Ch ops (λx=>if x=i then v else r x) (λx=>if x=i then ys else m x) t0 (i+1)=I1 oi.dst v (AV ys (Ch ops r m t0 i)):=by
     simp only[Ch,hdo,same i (Nat.le_refl _),if_true]
    rw[this];exact J
   .intro j hj o ho
    by_cases hji:j=i
    .subst hji
     have:o=oi:=Option.some.inj (ho.symm.trans Z);subst this;rw[same j (Nat.le_refl _)];simpa using hst
    .rw[same j (by omega)]
     simp only[hji,if_false];exact hs j (by omega) o ho
  have Y:∀v d,oi.dst=some d->Jl P h ops σ oi (Ch ops r m t0 i) v []->vq P h ops σ ((ops.toList.drop (i+1)).take k) K (AJ (Ch ops r m t0 i) d v)->∃(r':Nat->V) (U:Nat->List (Nat×Tk)),(∀j,j<n->∀o,ops[j]? =some o->Jl P h ops σ o (Ch ops r' U t0 j) (r' j) (U j))/\K (Ch ops r' U t0 n):=
   λv d hd h1 h2=>go v [] h1 (by rw[D8,hd];exact h2)
  unfold vq at J;split at J
  .rename_i M
   have dsome:∀(K:(Nat->V)->Prop) r',QK h oi.dst (Ch ops r m t0 i) K r'->∃d,oi.dst=some d:=by
    intro K r' E;unfold QK at E;split at E
    .exact⟨_,by assumption⟩
    .exact E.elim
   rcases J with⟨hna,J|⟨ys,d,v,hd,L,hfz,hmv,hmq,J⟩|⟨ys,v,hmv,hne,hlq,J⟩⟩|⟨hal,d,hd,L,J⟩
   .obtain⟨r',E,W⟩:=WH J
    obtain⟨d,hd⟩:=dsome _ _ E;rw[hd]at E;obtain⟨L,E⟩:=E;exact Y _ d hd (.inl ⟨hna,.inl ⟨d,hd,.inl ⟨.inl ⟨L,.inl M,r',W,rfl⟩,rfl⟩⟩⟩) E
   .exact go v ys (.inl ⟨hna,.inl ⟨d,hd,.inr ⟨L,M,hfz,hmv,hmq⟩⟩⟩) (by rw[hd];exact J)
   .exact go v ys (.inl ⟨hna,.inr (.inl ⟨M,hmv,hne,hlq⟩)⟩) J
   .exact Y .dead d hd (.inr ⟨hal,d,hd,L,rfl,rfl⟩) J
  .rename_i j e M
   split at J
   .rename_i b hb
    by_cases hbw:b=e
    .obtain⟨r',E,W⟩:=WH (J.1 hbw)
     unfold QK at E;split at E
     case h_2=>exact E.elim
     rename_i d hd;obtain⟨L,E⟩:=E;exact Y _ d hd (.inl ⟨Ds M,.inl ⟨d,hd,.inl ⟨.inl ⟨L,.inr ⟨j,e,M,by rw[hb,hbw]⟩,r',W,rfl⟩,rfl⟩⟩⟩) E
    .have hbn:b=(!e):=by cases b<;>cases e<;>simp_all
     obtain⟨O,E⟩:=J.2 hbn;cases hd:oi.dst with
     |none=>
      rw[hd]at E;exact go .dead [] (.inl ⟨Ds M,.inr (.inr ⟨j,e,M,.inl (by rw[hb,hbn]),hd,rfl⟩)⟩) (by rw[hd];exact E)
     |some d=>
      rw[hd]at E;exact Y udV d hd (.inl ⟨Ds M,.inl ⟨d,hd,.inl ⟨.inr ⟨j,e,M,.inl (by rw[hb,hbn]),O d hd,rfl⟩,rfl⟩⟩⟩) E
   .obtain⟨hu,O,E⟩:=J
    cases hd:oi.dst with
    |none=>
     rw[hd]at E;exact go .dead [] (.inl ⟨Ds M,.inr (.inr ⟨j,e,M,.inr hu,hd,rfl⟩)⟩) (by rw[hd];exact E)
    |some d=>
     rw[hd]at E;exact Y udV d hd (.inl ⟨Ds M,.inl ⟨d,hd,.inl ⟨.inr ⟨j,e,M,.inr hu,O d hd,rfl⟩,rfl⟩⟩⟩) E
structure MOK1(A:Nat->Prop)(ops:Array Oper)(n i:Nat)(p:Nat×Tk)(oi:Oper):Prop where
 at_:ops[i]? =some oi
 na:¬A i
 looks:p.1∈oi.looksAt ops
 one:p.2.isPart=false->∀j oj,ops[j]? =some oj->p.1∈oj.looksAt ops->j=i\/WS ops i j\/WS ops j i
 nx:p.2.isPart=false->∀y c,oi.op≠.extract y c
 part:∀c,p.2=.part c->∀j oj,j<n->ops[j]? =some oj->p.1∈oj.looksAt ops->oj.guard=none/\∃c',oj.op=.extract (.tmp p.1) c'/\(j≠i->c'≠c)
 edge:(∃e∈oi.after,Region.binds .any e=true/\AK ops e.on=some p.1)\/(p.2.isPart=false/\∀j,AK ops j≠some p.1)
structure MOKA(A:Nat->Prop)(B:Nat->Nat->Prop)(ops:Array Oper)(n i:Nat)(p:Nat×Tk)(oi:Oper):Prop where
 at_:ops[i]? =some oi
 put:p.2.isPart=false
 nd:∀j,AK ops j≠some p.1
 us:B i p.1
 one:∀j,B j p.1->j=i\/WS ops i j\/WS ops j i
 look:∀j oj,ops[j]? =some oj->p.1∈oj.looksAt ops->A j
def MOK(A:Nat->Prop)(B:Nat->Nat->Prop)(ops:Array Oper)(n:Nat)(m:Nat->List (Nat×Tk)):Prop:=∀i,i<n->∀p∈m i,∃oi,MOK1 A ops n i p oi\/MOKA A B ops n i p oi
def isA(h:Cz)(ops:Array Oper)(i:Nat):Prop:=∃o,ops[i]? =some o/\alM h ops o=true
def isB(h:Cz)(ops:Array Oper)(i x:Nat):Prop:=i∈alU h ops x
theorem le_one{α:Type}{l:List α}(h:l.length<=1){a b:α}(ha:a∈l)(e:b∈l):a=b:=by
 match l,h with
 |[c],_=>grind
theorem Hx{ops:Array Oper}{oi:Oper}{y:Nat}(J:(oi.after.toList.any λe=>Region.binds .any e&&(match AK ops e.on with
 |some d=>Nat.beq d y
 |none=>false))=true):∃e∈oi.after,Region.binds .any e=true/\AK ops e.on=some y:=by
 obtain⟨e,L,E⟩:=List.any_eq_true.1 J;rw[bAE]at E;refine⟨e,by grind,E.1,?_⟩
 have:=E.2;split at this
 .simp_all
 grind
theorem Z5{P:Program}{h:Cz}{σ:List V}{t0 r:Nat->V}{m:Nat->List (Nat×Tk)}(hq:QOK ops n)
  (hst:∀j,j<n->∀o,ops[j]? =some o->Jl P h ops σ o (Ch ops r m t0 j) (r j) (m j)):MOK (isA h ops) (isB h ops) ops n m:=by
 intro i hi p U;obtain⟨oi,L,_⟩:=hq.dst i hi;have hdo:AK ops i=oi.dst:=by simp[AK,L]
 have E:¬isA h ops i/\(JE ops oi p=true\/Ut h ops oi p=true)/\(p.2.isPart=false->∀y c,oi.op≠.extract y c):=by
  rcases hst i hi oi L with⟨hna,hs⟩|⟨_,_,_,_,_,he⟩
  rotate_left
  .rw[he]at U;cases U
  refine⟨fun⟨o',ho',hal⟩=>?_,?_⟩
  .obtain rfl:o'=oi:=Option.some.inj (ho'.symm.trans L)
   rw[hna]at hal;cases hal
  rcases hs with⟨_,_,⟨_,he⟩|⟨_,_,_,E,hmq⟩⟩|⟨_,E,hne,_⟩|⟨_,_,_,_,_,he⟩
  .rw[he]at U;cases U
  .refine⟨.inl (E p U),λhpt y c hop=>?_⟩
   rcases hmq with⟨z,hz,_⟩|⟨z,c',n',f,_,hys,_⟩
   .rcases hz with hz|hz<;>(rw[hop]at hz;cases hz)
   .rw[hys,List.mem_singleton]at U
    rw[U]at hpt;cases hpt
  .exact⟨E p U,λ_ y c hop=>by rw[hop]at hne;cases hne⟩
  .rw[he]at U;cases U
 obtain⟨hna,E,hnx⟩:=E;rcases E with E|E
 rotate_left
 .unfold Ut at E
  simp only[bAE,Bool.not_eq_true']at E;obtain⟨⟨⟨⟨W,h2⟩,h3⟩,h4⟩,h5⟩:=E;have hin:∀j oj,ops[j]? =some oj->alB h ops oj p.1=true->j∈alU h ops p.1:=by
   intro j oj J hb;unfold alU;rw[List.mem_filter,List.mem_range];refine⟨(Array.getElem?_eq_some_iff.1 J).1,?_⟩;rw[J];exact hb
  refine⟨oi,.inr ⟨L,W,CU h3,hin i oi L h2,λj hj=>?_,λj oj J hl=>?_⟩⟩
  .have U:=Ks hq.back h4 λk hk=>by
    have hk:=List.mem_range.1 (List.mem_filter.1 hk).1;exact⟨ops[k],by simp[hk]⟩
   obtain⟨a,ha,ea⟩:=List.getElem_of_mem (hin i oi L h2);obtain⟨b,hb',eb⟩:=List.getElem_of_mem (show j∈alU h ops p.1 from hj)
   rcases Nat.lt_trichotomy a b with hlt|heq|hlt
   .have:=List.pairwise_iff_getElem.1 U a b ha hb' hlt
    rw[ea,eb]at this;exact .inr (.inr this)
   .subst heq
    exact .inl (eb.symm.trans ea)
   .have:=List.pairwise_iff_getElem.1 U b a hb' ha hlt
    rw[ea,eb]at this;exact .inr (.inl this)
  .have:=aET.1 h5 j (List.mem_range.2 (Array.getElem?_eq_some_iff.1 J).1)
   rw[J]at this;simp only[Bool.or_eq_true,Bool.not_eq_true']at this;rcases this with h6|h6
   .have:(oj.looksAt ops).contains p.1=true:=by simpa using hl
    rw[h6]at this;cases this
   .exact⟨oj,J,h6⟩
 obtain⟨y,tk⟩:=p
 have wholeC:mvC ops oi y=true->tk.isPart=false->∃oi,MOK1 (isA h ops) ops n i (y,tk) oi\/MOKA (isA h ops) (isB h ops) ops n i (y,tk) oi:=by
  intro E O;unfold mvC at E;rw[bAE,bAE]at E;have W:y∈oi.looksAt ops:=by simpa using E.1.1
  exact⟨oi,.inl ⟨L,hna,W,λ_ j oj J M=>Vv hq.back E.2 L W J M,hnx,(λc Y=>by have Y:tk=.part c:=Y;rw[Y]at O;cases O),.inr ⟨O,CU E.1.2⟩⟩⟩
 have BU:mvB ops oi y=true\/mvR ops oi y=true->tk.isPart=false->∃oi,MOK1 (isA h ops) ops n i (y,tk) oi\/MOKA (isA h ops) (isB h ops) ops n i (y,tk) oi:=by
  intro E O
  obtain⟨W,h2,h3⟩:(oi.looksAt ops).contains y=true/\YS ops y=true/\((∃e∈oi.after,Region.binds .any e=true/\AK ops e.on=some y)\/(tk.isPart=false/\∀j,AK ops j≠some y)):=by
   rcases E with E|E
   .unfold mvB at E
    rw[bAE,bAE]at E;exact⟨E.1.1,E.1.2,.inl (Hx E.2)⟩
   .unfold mvR at E
    rw[bAE,bAE]at E;exact⟨E.1.1,E.1.2,.inr ⟨O,CU E.2⟩⟩
  have W:y∈oi.looksAt ops:=by simpa using W
  refine⟨oi,.inl ⟨L,hna,W,λ_ j oj J M=>.inl ?_,hnx,(λc Y=>by have Y:tk=.part c:=Y;rw[Y]at O;cases O),h3⟩⟩
  unfold YS at h2;have h2:=of_decide_eq_true h2
  have hin:∀k ok,ops[k]? =some ok->y∈ok.looksAt ops->k∈(List.range ops.size).filter λj=>match ops[j]? with
    |some o=>(o.looksAt ops).contains y
    |none=>false:=by
   intro k ok hk hyk;rw[List.mem_filter,List.mem_range];refine⟨(Array.getElem?_eq_some_iff.1 hk).1,?_⟩;rw[hk];simpa using hyk
  exact le_one h2 (hin j oj J M) (hin i oi L W)
 unfold JE at E;cases tk with
 |all=>exact BU (.inl E) rfl
 |put v=>
  have E:(mvB ops oi y||mvR ops oi y||mvC ops oi y)=true:=E;rw[Bool.or_eq_true,Bool.or_eq_true]at E;exact E.elim (λh=>BU h rfl) λh=>wholeC h rfl
 |part c=>
  have E:exB ops oi y c=true:=E;unfold exB at E;rw[bAE,bAE]at E;obtain⟨⟨W,h2⟩,h3⟩:=E;have W:y∈oi.looksAt ops:=by simpa using W
  refine⟨oi,.inl ⟨L,hna,W,(λY=>by cases Y),(λY=>by cases Y),λc0 Y j oj hj J M=>?_,.inl (Hx h3)⟩⟩
  cases Y;have Z:=aET.1 h2 i (List.mem_range.2 (Array.getElem?_eq_some_iff.1 L).1);have:=aET.1 h2 j (List.mem_range.2 (Array.getElem?_eq_some_iff.1 J).1);rw[J]at this;simp only[Bool.or_eq_true,Bool.not_eq_true',bAE]at this;rcases this with h4|⟨h4,h5⟩
  .have M:y∈oj.looksAt ops:=M
   have:(oj.looksAt ops).contains y=true:=by simpa using M
   rw[h4]at this;cases this
  .refine⟨by simpa using h4,?_⟩
   split at h5
   case h_2=>cases h5
   rename_i y' c' hop;simp only[bAE,Bool.or_eq_true,Bool.not_eq_true',beq_iff_eq]at h5;obtain⟨h6,h7⟩:=h5;have h6:=bqE h6;subst h6;refine⟨c',hop,λhji hcc=>?_⟩
   rcases h7 with h7|h7
   .rw[hcc,Nat.beq_refl]at h7;cases h7
   .cases hdi:oi.dst with
    |some d=>exact(hq.ne i j d oj hi hj (Ne.symm hji) (hdo.trans hdi) J).1 (h7.trans hdi)
    |none=>
     rcases hst i hi oi L with⟨_,⟨d,hd,_⟩|⟨_,_,hne,_⟩|⟨_,_,_,_,_,he⟩⟩|⟨_,d,hd,_⟩
     .rw[hdi]at hd;cases hd
     rotate_left
     .rw[he]at U;cases U
     .rw[hdi]at hd;cases hd
     .rw[L]at Z
      simp only[Bool.or_eq_true,Bool.not_eq_true',bAE]at Z;rcases Z with h8|⟨_,h8⟩
      .have:(oi.looksAt ops).contains y'=true:=by simpa using W
       rw[h8]at this;cases this
      .split at h8
       .rename_i hop';rw[hop']at hne;cases hne
       .cases h8
def apS(S:Nat->Bool)(m:Nat->List (Nat×Tk))(x:Nat)(v:V):Nat->V
 |0=>v
 |n+1=>if S n=true then Im (Bp (m n) x) (apS S m x v n)else apS S m x v n
def Ik{S:Nat->Bool}{m:Nat->List (Nat×Tk)}{x:Nat}{v:V}:∀n,(∀i,i<n->S i=true->Bp (m i) x=none)->apS S m x v n=v
 |0,_=>rfl
 |n+1,h=>by
  unfold apS;rw[Ik n λi E=>h i (by omega)]
  split
  .rename_i e;rw[h n (by simp) e];rfl
  rfl
def Cy{S S':Nat->Bool}{m:Nat->List (Nat×Tk)}{x:Nat}{v:V}:∀n,(∀i,i<n->S i=S' i)->apS S m x v n=apS S' m x v n
 |0,_=>rfl
 |n+1,h=>by
  unfold apS;rw[Cy n λi e=>h i (by omega),h n (by simp)]
def KD{S S':Nat->Bool}{m:Nat->List (Nat×Tk)}{x j:Nat}{v:V}(L:S j=false)(J:S' j=true)(e:∀i,i≠j->S' i=S i):∀n,(∀i,i<n->j<i->S i=true->∀u,Im (Bp (m i) x) (Im (Bp (m j) x) u)=Im (Bp (m j) x) (Im (Bp (m i) x) u))->j<n->apS S' m x v n=Im (Bp (m j) x) (apS S m x v n)
 |0,_,h=>by omega
 |n+1,hc,h=>by
  unfold apS;by_cases E:j=n
  .subst E
   rw[if_pos J,L,Cy (S':=S) j λi M=>e i (by omega)]
   simp
  .rw[KD L J e n (λi M=>hc i (by omega)) (by omega),e n (Ne.symm E)]
   grind
def EqC(c:Nat)(v v':V):Prop:=v=v'\/∃e n f g,v=.many e n f/\v'=.many e n g/\f c=g c
theorem EqC.symm{c:Nat}{v v':V}(h:EqC c v v'):EqC c v' v:=by
 rcases h with rfl|⟨e,n,f,g,L,J,E⟩
 .exact .inl rfl
 .exact .inr ⟨e,n,g,f,J,L,E.symm⟩
theorem EqC.trans{c:Nat}{v v' e:V}(h:EqC c v v')(Z:EqC c v' e):EqC c v e:=by
 rcases h with rfl|⟨M,n,f,g,W,U,O⟩
 .omega
 .rcases Z with rfl|⟨Y,n',f',g',E,L,J⟩
  .exact .inr ⟨M,n,f,g,W,U,O⟩
  .rw[U]at E
   cases E;exact .inr ⟨M,n,f,g',W,L,O.trans J⟩
theorem EqC.kill{c c':Nat}(h:c'≠c)(v:V):EqC c v (OD c' v):=by
 cases v<;>try exact .inl rfl
 exact .inr ⟨_,_,_,_,rfl,rfl,by grind⟩
theorem XQ{S:Nat->Bool}{m:Nat->List (Nat×Tk)}{x c:Nat}{v:V}:∀n,(∀i,i<n->S i=true->∀e,Bp (m i) x=some e->∃c',e=.part c'/\c'≠c)->EqC c v (apS S m x v n)
 |0,_=>.inl rfl
 |n+1,h=>by
  have E:=XQ (v:=v) n λi O=>h i (by omega)
  unfold apS;split
  .rename_i J
   cases L:Bp (m n) x with
   |none=>trivial
   |some e=>
    obtain⟨c',rfl,M⟩:=h n (by simp) J e L
    exact E.trans (EqC.kill M _)
  grind
def CT(ops:Array Oper)(n x:Nat):Option Nat:=(List.range n).find? λi=>AK ops i==some x
theorem Bn(h:CT ops n x=some i):i<n/\AK ops i=some x:=by
 unfold CT at h
 grind
theorem Lo(h:CT ops n x=none):∀i,i<n->AK ops i≠some x:=by
 unfold CT at h
 grind
theorem My(L:QOK ops n)(E:i<n)(h:AK ops i=some x):CT ops n x=some i:=by
 cases ho:CT ops n x with
 |none=>exact absurd h (Lo ho i E)
 |some j=>
  obtain⟨M,J⟩:=Bn ho;by_cases O:j=i
  .grind
  .obtain⟨oi,e,_⟩:=L.dst i E
   have:=(L.ne j i x oi M E O J e).1;simp[AK,e]at h
   grind
def DA(L:QOK ops n)(Y:MOK A B ops n m){U:Tk}(Z:i<n)(h:Bp (m i) x=some U):CT ops n x=none\/∃k,CT ops n x=some k/\k<i/\∃oi,ops[i]? =some oi/\∃e∈oi.after,Region.binds .any e=true/\e.on=k:=by
 obtain⟨oi,ho⟩:=Y i Z _ (CW h);rcases ho with ho|ho
 rotate_left
 .left
  cases W:CT ops n x with
  |none=>rfl
  |some k=>exact absurd (Bn W).2 (ho.nd k)
 rcases ho.edge with⟨e,M,O,hd⟩|⟨_,E⟩
 rotate_left
 .left
  cases ho:CT ops n x with
  |none=>rfl
  |some k=>exact absurd (Bn ho).2 (E k)
 right;have J:=L.back i oi e ho.at_ M O;exact⟨e.on,My L (by omega) hd,J,oi,ho.at_,e,M,O,rfl⟩
theorem QQ(J:MOK A B ops n m)(U:i<n)(M:j<n)(O:i≠j)(Y:¬WS ops i j)(L:¬WS ops j i)(u:V):Im (Bp (m i) x) (Im (Bp (m j) x) u)=Im (Bp (m j) x) (Im (Bp (m i) x) u):=by
 refine Xi _ _ _ λa b ha W=>?_
 obtain⟨oi,E⟩:=J i U _ (CW ha);obtain⟨oj,e⟩:=J j M _ (CW W);rcases E with E|E
 rotate_left
 .rcases e with e|e
  .exact absurd (E.look j oj e.at_ e.looks) e.na
  .rcases E.one j e.us with h3|h3|h3<;>first|omega|exact absurd h3 Y|exact absurd h3 L
 rcases e with e|e
 rotate_left
 .exact absurd (e.look i oi E.at_ E.looks) E.na
 refine⟨?_,?_⟩
 .cases h:a.isPart with
  |true=>rfl
  |false=>rcases E.one h j oj e.at_ e.looks with h3|h3|h3<;>first|grind|rfl|rfl
 .cases h:b.isPart with
  |true=>rfl
  |false=>rcases e.one h i oi E.at_ E.looks with h3|h3|h3<;>first|grind|rfl|exact absurd h3 L
def pt(ops:Array Oper)(n:Nat)(r:Nat->V)(m:Nat->List (Nat×Tk))(t0:Nat->V)(listed:Array Bool)(x:Nat):V:=
 match CT ops n x with
 |some k=>if listed.getD k false then apS (λi=>listed.getD i false) m x (r k) n else .dead
 |none=>apS (λi=>listed.getD i false) m x (t0 x) n
theorem HP(U:QOK ops n)(hm:MOK A B ops n m)(r t0:Nat->V)(x:Nat):∀j,j<=n->Ch ops r m t0 j x=match CT ops n x with
  |some k=>if k<j then apS (λi=>decide (i<j)) m x (r k) n else t0 x
  |none=>apS (λi=>decide (i<j)) m x (t0 x) n:=by
 intro j
 induction j with
 |zero=>
  intro _;cases CT ops n x with
  |none=>exact(Ik n λi _ J=>by simp at J).symm
  |some k=>simp[Ch]
 |succ j ih=>
  intro hj;obtain⟨oj,W,_⟩:=U.dst j (by omega)
  have hdo:AK ops j=oj.dst:=by simp[AK,W]
  have other:AK ops j≠some x->Ch ops r m t0 (j+1) x=match CT ops n x with
    |some k=>if k<j+1 then apS (λi=>decide (i<j+1)) m x (r k) n else t0 x
    |none=>apS (λi=>decide (i<j+1)) m x (t0 x) n:=by
   intro L
   have e:Ch ops r m t0 (j+1) x=AV (m j) (Ch ops r m t0 j) x:=by
    show I1 (AK ops j) (r j) (AV (m j) (Ch ops r m t0 j)) x=_;cases hd:AK ops j with
    |none=>rfl
    |some d=>
     show AJ _ d _ x=_;unfold AJ;rw[if_neg]
     rintro rfl
     exact L hd
   rw[e];unfold AV;rw[ih (by omega)]
   cases ho:CT ops n x with
   |none=>
    exact(KD (by simp) (by simp) (λi hi=>by
      simp only[decide_eq_decide];omega) n (λi _ Z J=>absurd (of_decide_eq_true J) (by omega)) (by omega)).symm
   |some k=>
    have hkj:k≠j:=by
     rintro rfl
     exact L (Bn ho).2
    simp only;by_cases M:k<j
    .rw[if_pos M,if_pos (by omega)]
     exact(KD (by simp) (by simp) (λi hi=>by
      simp only[decide_eq_decide];omega) n (λi _ Z J=>absurd (of_decide_eq_true J) (by omega)) (by omega)).symm
    .rw[if_neg M,if_neg (by omega)]
     cases Y:Bp (m j) x with
     |none=>rfl
     |some tk=>
      rcases DA U hm (by omega:j<n) Y with E|⟨k',E,hkj',_⟩
      .rw[ho]at E;cases E
      .rw[ho]at E;cases E;omega
  by_cases L:AK ops j=some x
  .have ho:=My U (by omega:j<n) L
   have e:Ch ops r m t0 (j+1) x=r j:=by
    show I1 (AK ops j) (r j) (AV (m j) (Ch ops r m t0 j)) x=_;rw[L];show AJ _ x _ x=_;unfold AJ;rw[if_pos rfl]
   rw[e,ho];simp only[Nat.lt_succ_self,if_true];refine(Ik n λi hi J=>?_).symm
   cases Y:Bp (m i) x with
   |none=>rfl
   |some tk=>
    rcases DA U hm hi Y with O|⟨k,O,hki,_⟩
    .rw[ho]at O;cases O
    rw[ho]at O;cases O;have:=of_decide_eq_true J;omega
  .exact other L
theorem PR.ev{C:Ctx}{N:Nat}{σ:List V}{ρ:Nat->Value}{F:Nat->Nat->Prop}{t:Nat->V}{a:Act}{w:World}{D:Nat->Prop}{T:Nat->Nat->Prop}(h:PR C N σ ρ F t a w D T)(x:Operand):OpR σ w D ρ F (Ms.ev ⟨t,σ⟩ x) (a.eval x):=by
 have plain:∀v cv,Rel D w (Am σ ρ w) v cv noF->OpR σ w D ρ F v cv:=λv cv E=>⟨noF,E,λ_ h=>h.elim,λ_ _ _ h=>h⟩
 cases x with
 |tmp y=>
  by_cases e:y<N
  .exact⟨T y,h.tm y e,h.tD y,λi b J=>h.tF i y b J⟩
  .refine plain _ _ ?_
   show Rel D w _ (t y) _ noF;rw[h.dd y (Nat.le_of_not_lt e)];exact λ_ h=>h
 |const v=>exact plain _ _ (IR v)
 |global g=>exact plain _ _ ⟨rfl,rfl,λ_ h=>h⟩
 |func f=>exact plain _ _ PY
theorem PR.gvN(h:PR C N σ ρ F t a w D T)(e:Go.Ve.gv t ops j=udV):yielded ops a.tmps j=none:=by
 unfold Go.Ve.gv at e;split at e
 .rename_i d hd
  have E:d<N:=by
   rcases Nat.lt_or_ge d N with h'|h'
   .grind
   .rw[h.dd d h']at e;cases e
  have L:=h.tm d E;rw[e]at L;obtain⟨cs,_,J,_⟩:=L;have M:d<a.tmps.size:=by rw[h.sz];omega
  have O:a.tmps[d]? =some (.tuple cs):=by
   simp[M]at J⊢
   trivial
  unfold yielded
  grind
 trivial
theorem PR.gv{C:Ctx}{N:Nat}{σ:List V}{ρ:Nat->Value}{F:Nat->Nat->Prop}{t:Nat->V}{a:Act}{w:World}{D:Nat->Prop}{T:Nat->Nat->Prop}(h:PR C N σ ρ F t a w D T){ops:Array Oper}{j:Nat}{b:Bool}(e:Go.Ve.gv t ops j=.c (.bool b)):yielded ops a.tmps j=some b:=by
 unfold Go.Ve.gv at e;split at e
 .rename_i d hd
  have E:d<N:=by
   rcases Nat.lt_or_ge d N with h'|h'
   .omega
   .rw[h.dd d h']at e;grind
  have J:=h.tm d E;rw[e]at J;have M:d<a.tmps.size:=by rw[h.sz];grind
  have L:a.tmps[d]? =some (.bool b):=by
   have:=J.1
   simp_all
  unfold yielded
  grind
 grind
theorem PR.put{C:Ctx}{N:Nat}{σ:List V}{ρ:Nat->Value}{F:Nat->Nat->Prop}{t:Nat->V}{a:Act}{w w':World}{D D':Nat->Prop}{T:Nat->Nat->Prop}(h:PR C N σ ρ F t a w D T){r:V}{v':Value}{fp:Nat->Prop}{d:Nat}(hB:Below w.heap.size w w')(hr:Rel D' w' (Am σ ρ w') r v' fp)
  (hf:∀b,fp b->w.heap.size<=b) (Y:∀b,D b->D' b) (W:∀b,D' b->D b\/w.heap.size<=b) (Z:∀b,D' b->b<w'.heap.size/\¬fp b) (hdn:d<N):
  PR C N σ ρ F (AJ t d r) (a.put (some d) v') w' D' (λx=>if x=d then fp else T x):=by
 have L:∀i b,F i b->b<w.heap.size:=h.wr.lt;have E:∀x b,T x b->b<w.heap.size:=by
  intro x b e;by_cases M:x<N
  .exact Rel.lt _ _ _ (h.tm x M) b e
  .exact absurd e (h.tx x b (Nat.le_of_not_lt M))
 have wr':Bs σ w' D' ρ F:=by
  have O:=h.wr.below hB;refine⟨λi hi=>Rel.mono Y (λ_ _ h=>h) _ _ _ (λ_ _=>rfl) (O.rel i hi),O.disj,λi b e hD=>?_,λb e=>(Z b e).1,O.out⟩
  rcases W b hD with J|J
  .exact O.dD i b e J
  .have:=L i b e;omega
 refine⟨h.df,by rw[BL];simpa using h.sz,λx M=>?_,wr',λx M=>?_,λx b e=>?_,λi x b e hT=>?_,λx y b hxy O J=>?_,λx b e=>?_,h.fr.below hB,h.Fn,λb e=>Y b (h.D1 b e),λb e U=>?_,h.rt,h.ml,λx b M e=>?_⟩
 .have:¬x=d:=by omega
  simp only[AJ,this,if_false];exact h.dd x M
 .have U:x<a.tmps.size:=by rw[h.sz];exact M
  rw[BL];by_cases he:x=d
  .subst he
   simp only[AJ,if_true];simpa [U]using hr
  .simp only[AJ,he,if_false]
   rw[Array.getD_eq_getD_getElem?,Array.getElem?_setIfInBounds_ne (Ne.symm he),<-Array.getD_eq_getD_getElem?];refine Rel.mono Y (λv cv hv=>Am.same h.wr (λi b e=>hB.block b (L i b e)) v cv hv) _ _ _ (λb e=>hB.block b ?_) (h.tm x M)
   exact e.elim (h.wr.Dlt b) (E x b)
 .split at e
  .exact λhD=>(Z b hD).2 e
  .intro hD
   rcases W b hD with J|J
   .exact h.tD x b e J
   .have:=E x b e;omega
 .split at hT
  .have:=L i b e;have:=hf b hT;omega
  .exact h.tF i x b e hT
 .split at O<;>split at J
  .omega
  .have:=hf b O;have:=E y b J;omega
  .have:=hf b J;have:=E x b O;omega
  .exact h.tT x y b hxy O J
 .split at e
  .exact .inr (Nat.le_trans h.fr.size (hf b e))
  .exact h.tn x b e
 .rcases W b e with J|J
  .exact h.D2 b J U
  .have:=h.fr.size;omega
 .have:¬x=d:=by omega
  simp only[this,if_false]at e;exact h.tx x b M e
theorem PR.move{w':World}{D':Nat->Prop}(h:PR C N σ ρ F t a w D T){r:V}{v':Value}{d:Nat}{t1:Nat->V}{T1:Nat->Nat->Prop}(g1:∀x,x<N->Rel D w (Am σ ρ w) (t1 x) (a.tmps.getD x undef) (T1 x))(g2:∀x b,T1 x b->T x b)(g3:∀x,N<=x->t1 x=.dead)(hB:Below w.heap.size w w')(hr:Rel D' w' (Am σ ρ w') r v' fp)
  (hf:∀b,fp b->(∃y,T y b/\∀x,¬T1 x b)\/w.heap.size<=b) (Y:∀b,D b->D' b) (W:∀b,D' b->D b\/w.heap.size<=b) (Z:∀b,D' b->b<w'.heap.size/\¬fp b) (hdn:d<N):
  PR C N σ ρ F (AJ t1 d r) (a.put (some d) v') w' D' (λx=>if x=d then fp else T1 x):=by
 have L:∀i b,F i b->b<w.heap.size:=h.wr.lt;have J:∀x b,T x b->b<w.heap.size:=by
  intro x b e;by_cases M:x<N
  .exact Rel.lt _ _ _ (h.tm x M) b e
  .exact absurd e (h.tx x b (Nat.le_of_not_lt M))
 have wr':Bs σ w' D' ρ F:=by
  have O:=h.wr.below hB;refine⟨λi hi=>Rel.mono Y (λ_ _ h=>h) _ _ _ (λ_ _=>rfl) (O.rel i hi),O.disj,λi b e hD=>?_,λb e=>(Z b e).1,O.out⟩
  rcases W b hD with E|E
  .exact O.dD i b e E
  .have:=L i b e;omega
 refine⟨h.df,by rw[BL];simpa using h.sz,λx M=>?_,wr',λx M=>?_,λx b e=>?_,λi x b e hT=>?_,λx y b hxy O E=>?_,λx b e=>?_,h.fr.below hB,h.Fn,λb e=>Y b (h.D1 b e),λb e U=>?_,h.rt,h.ml,λx b M e=>?_⟩
 .have:¬x=d:=by omega
  simp only[AJ,this,if_false];exact g3 x M
 .have U:x<a.tmps.size:=by rw[h.sz];exact M
  rw[BL];by_cases he:x=d
  .subst he
   simp only[AJ,if_true];simpa [U]using hr
  .simp only[AJ,he,if_false]
   rw[Array.getD_eq_getD_getElem?,Array.getElem?_setIfInBounds_ne (Ne.symm he),<-Array.getD_eq_getD_getElem?];refine Rel.mono Y (λv cv hv=>Am.same h.wr (λi b e=>hB.block b (L i b e)) v cv hv) _ _ _ (λb e=>hB.block b ?_) (g1 x M)
   exact e.elim (h.wr.Dlt b) λh'=>J x b (g2 x b h')
 .split at e
  .exact λhD=>(Z b hD).2 e
  .intro hD
   rcases W b hD with E|E
   .exact h.tD x b (g2 x b e) E
   .have:=J x b (g2 x b e);omega
 .split at hT
  .rcases hf b hT with⟨y,hy,_⟩|E
   .exact h.tF i y b e hy
   .have:=L i b e;omega
  .exact h.tF i x b e (g2 x b hT)
 .have one:∀x,fp b->T1 x b->False:=by
   intro x h3 h4;rcases hf b h3 with⟨z,_,h5⟩|h5
   .exact h5 x h4
   .have:=J x b (g2 x b h4);omega
  split at O<;>split at E
  .omega
  .exact one y O E
  .exact one x E O
  .exact h.tT x y b hxy (g2 x b O) (g2 y b E)
 .split at e
  .rcases hf b e with⟨y,hy,_⟩|E
   .exact h.tn y b hy
   .exact .inr (Nat.le_trans h.fr.size E)
  .exact h.tn x b (g2 x b e)
 .rcases W b e with E|E
  .exact h.D2 b E U
  .have:=h.fr.size;omega
 .have:¬x=d:=by omega
  simp only[this,if_false]at e;exact h.tx x b M (g2 x b e)
end Go.Ve


namespace Go.Ve
variable{a:Act}{K K':Act->World->Prop}{listed:Array Bool}{Q Q0:Exit->Act->World->Prop}{N c d f i x y:Nat}{D:Nat->Prop}{o oi:Oper}{dst:Option Nat}{u v:Value}{w:World}
def Below.drew(w:World):Below w.heap.size w {w with drawn:=w.drawn+1}:=
 ⟨rfl,rfl,rfl,Nat.le_refl _,λ_ _=>rfl,Nat.le_succ _⟩
theorem BM(h:dst≠some x):(a.put dst u).tmps[x]? =a.tmps[x]?:=by
 cases dst with
 |none=>rfl
 |some e=>
  show(a.tmps.setIfInBounds e u)[x]? =_
  grind
section
def P9(ops:Array Oper)(n:Nat)(X:Nat->Prop)(x:Nat):Prop:=(∃i,i<n/\AK ops i=some x)\/X x
variable {X A:Nat->Prop}{B:Nat->Nat->Prop}{P:Program}{C:Ctx}{h:Cz}{ops:Array Oper}{σ:List V}{ρ:Nat->Value}{F:Nat->Nat->Prop}{t0 r:Nat->V}{m:Nat->List (Nat×Tk)}{n:Nat}
theorem pt_set(hq:QOK ops n)(hm:MOK A B ops n m)(M:HeadInv .any ops n listed)(W:i<n)(hr:i∈Region.ready .any ops listed):
  pt ops n r m t0 (listed.setIfInBounds i true)=I1 (AK ops i) (r i) (AV (m i) (pt ops n r m t0 listed)):=by
 have hl:=M.size;have hii:i<listed.size:=by rw[hl];exact Nat.lt_of_lt_of_le W hq.le
 obtain⟨E,o2,ho2,hall⟩:=mem_ready.1 hr;have E:=getD_both E;have eI:(listed.setIfInBounds i true).getD i false=true:=by simp[hii]
 funext x
 by_cases hx:AK ops i=some x
 .have e:I1 (AK ops i) (r i) (AV (m i) (pt ops n r m t0 listed)) x=r i:=by
   rw[hx];show AJ _ x _ x=_;unfold AJ;rw[if_pos rfl]
  rw[e];have ho:=My hq W hx;unfold pt;rw[ho];simp only;rw[if_pos eI];refine Ik n λj O Y=>?_
  cases hc:Bp (m j) x with
  |none=>rfl
  |some tk=>
   rcases DA hq hm O hc with Z|⟨k,Z,hkj,oj,hoj,e,he,hb,U⟩
   .rw[ho]at Z;cases Z
   rw[ho]at Z;cases Z;rw[getD_set_ne false (by omega)]at Y
   have:=M.closed j oj hoj Y e he hb;rw[U,E]at this;cases this
 .have e:I1 (AK ops i) (r i) (AV (m i) (pt ops n r m t0 listed)) x=AV (m i) (pt ops n r m t0 listed) x:=by
   cases hd:AK ops i with
   |none=>rfl
   |some d=>
    show AJ _ d _ x=_;unfold AJ;rw[if_neg]
    rintro rfl
    exact hx hd
  rw[e];unfold AV pt;cases ho:CT ops n x with
  |none=>
   exact KD (S:=λi=>listed.getD i false) E eI (λj O=>getD_set_ne false (Ne.symm O)) n (λj O hij Y u=>QQ hm O W (by omega) (λh=>by have:=h.listed M.closed Y;rw[E]at this;cases this) (λh=>absurd h.1 (by omega)) u) W
  |some k=>
   have hne:i≠k:=by
    rintro rfl
    exact hx (Bn ho).2
   simp only;rw[getD_set_ne false hne];by_cases J:listed.getD k false=true
   .rw[if_pos J,if_pos J]
    exact KD (S:=λi=>listed.getD i false) E eI (λj O=>getD_set_ne false (Ne.symm O)) n (λj O hij Y u=>QQ hm O W (by omega) (λh=>by have:=h.listed M.closed Y;rw[E]at this;cases this) (λh=>absurd h.1 (by omega)) u) W
   .rw[if_neg J,if_neg J]
    cases hc:Bp (m i) x with
    |none=>rfl
    |some tk=>
     rcases DA hq hm W hc with L|⟨k',L,hki,oi,hoi,e,he,hb,U⟩
     .rw[ho]at L;cases L
     rw[ho]at L;cases L;obtain rfl:oi=o2:=Option.some.inj (hoi.symm.trans ho2);have:=hall e he hb;rw[U]at this;exact absurd this J
theorem Hi{S S':Nat->Bool}{x:Nat}{v:V}:∀n,(∀i,i<n->Bp (m i) x≠none->S i=S' i)->apS S m x v n=apS S' m x v n
 |0,_=>rfl
 |n+1,h=>by
  unfold apS;rw[Hi n λi J=>h i (by omega)]
  cases E:Bp (m n) x with
  |none=>
   have:∀b,(if b=true then Im none (apS S' m x v n)else apS S' m x v n)=apS S' m x v n:=by
    intro b;cases b<;>rfl
   simp_all
  |some e=>grind
theorem XU(hq:QOK ops n)(hm:MOK A B ops n m)(inv:HeadInv .any ops n listed)(J:ops[i]? =some oi)(hi:i<n)(hr:i∈Region.ready .any ops listed)(hna:¬A i)(hx:x∈oi.looksAt ops):
  Ch ops r m t0 i x=pt ops n r m t0 listed x\/(oi.guard=none/\∃c,oi.op=.extract (.tmp x) c/\EqC c (Ch ops r m t0 i x) (pt ops n r m t0 listed x)):=by
 rw[HP hq hm r t0 x i (Nat.le_of_lt hi)];unfold pt
 have hm1:∀j,j<n->∀M,Bp (m j) x=some M->∃oj,MOK1 A ops n j (x,M) oj:=by
  intro j Z M hl;obtain⟨oj,ok|ok⟩:=hm j Z _ (CW hl)
  .exact⟨oj,ok⟩
  .exact absurd (ok.look i oi J hx) hna
 have one:∀j,j<n->∀M,Bp (m j) x=some M->M.isPart=false->decide (j<i)=listed.getD j false:=by
  intro j Z M hl E;obtain⟨oj,ok⟩:=hm1 j Z _ hl;obtain⟨L,o2,ho2,hall⟩:=mem_ready.1 hr;have L:=getD_both L;rcases ok.one E i oi J hx with h|h|h
  .subst h
   rw[L];simp
  .have h1:=h.1
   have:listed.getD j false=false:=by
    cases hb:listed.getD j false with
    |false=>rfl
    |true=>have:=h.listed inv.closed hb;rw[L]at this;cases this
   rw[this];exact dF (by omega)
  .rw[h.2 listed inv.closed λW Y e he hb=>by
    obtain rfl:W=o2:=Option.some.inj (Y.symm.trans ho2);exact hall e he hb]
   exact dT h.1
 cases ho:CT ops n x with
 |none=>
  left;refine Hi n λj Z hl=>?_
  cases O:Bp (m j) x with
  |none=>exact absurd O hl
  |some M=>
   obtain⟨oj,ok⟩:=hm1 j Z _ O;rcases ok.edge with⟨e,he,hb,hd⟩|⟨E,_⟩
   .have hlt:=hq.back j oj e ok.at_ he hb
    exact absurd hd (Lo ho e.on (by omega))
   .exact one j Z M O E
 |some k=>
  obtain⟨hk,hdk⟩:=Bn ho;obtain⟨W,Y,hnl⟩:=hq.dst i hi;obtain rfl:W=oi:=Option.some.inj (Y.symm.trans J);have hne:k≠i:=by
   rintro rfl
   have:W.dst=some x:=by simpa [AK,J]using hdk
   exact hnl x this hx
  obtain⟨e,he,hb,hon⟩:=(hq.ne k i x W hk hi hne hdk J).2 hx;obtain⟨L,o2,ho2,hall⟩:=mem_ready.1 hr;obtain rfl:o2=W:=Option.some.inj (ho2.symm.trans J);have h1:=hall e he hb;rw[hon]at h1;have h2:=hq.back i o2 e J he hb;rw[hon]at h2;simp only[h1,h2,if_true];have L:=getD_both L;by_cases hex:∃j c,j<n/\Bp (m j) x=some (.part c)
  .obtain⟨j,c,Z,hl⟩:=hex
   obtain⟨oj,ok⟩:=hm1 j Z _ hl;obtain⟨hg,c',hop,_⟩:=ok.part c rfl i o2 hi J hx;right;refine⟨hg,c',hop,?_⟩
   have side:∀S:Nat->Bool,S i=false->EqC c' (r k) (apS S m x (r k) n):=by
    intro S hSi;refine XQ n λj' hj' hs M hl'=>?_
    obtain⟨oj',ok'⟩:=hm1 j' hj' _ hl';cases E:M.isPart with
    |false=>
     obtain⟨_,c3,U,_⟩:=ok.part c rfl j' oj' hj' ok'.at_ ok'.looks;exact absurd U (ok'.nx E _ _)
    |true=>
     cases M<;>first|cases E|skip
     rename_i c2;obtain⟨_,c3,U,hne3⟩:=ok'.part c2 rfl i o2 hi J hx;rw[hop]at U;cases U;refine⟨c2,rfl,λe=>?_⟩
     have hij:i≠j':=by
      rintro rfl
      rw[hSi]at hs;cases hs
     exact hne3 hij e.symm
   exact(side (λj=>decide (j<i)) (by simp)).symm.trans (side (λj=>listed.getD j false) L)
  .left
   refine Hi n λj Z hl=>?_
   cases O:Bp (m j) x with
   |none=>exact absurd O hl
   |some M=>
    cases E:M.isPart with
    |true=>
     cases M<;>first|cases E|skip
     exact absurd ⟨j,_,Z,O⟩ hex
    |false=>exact one j Z M O E
theorem agreeA(hq:QOK ops n)(W:MOK A B ops n m)(J:HeadInv .any ops n listed)(hi:i<n)(hr:i∈Region.ready .any ops listed){tk:Tk}(O:MOKA A B ops n i (x,tk) oi):
  Ch ops r m t0 i x=pt ops n r m t0 listed x:=by
 rw[HP hq W r t0 x i (Nat.le_of_lt hi)];unfold pt;have M:CT ops n x=none:=by
  cases hw:CT ops n x with
  |none=>rfl
  |some k=>exact absurd (Bn hw).2 (O.nd k)
 rw[M];refine Hi n λj hj hl=>?_
 cases L:Bp (m j) x with
 |none=>exact absurd L hl
 |some tk'=>
  obtain⟨E,o2,ho2,Z⟩:=mem_ready.1 hr;have E:=getD_both E;have key:j=i\/WS ops i j\/WS ops j i:=by
   obtain⟨oj,ok|ok⟩:=W j hj _ (CW L)
   .exact absurd (O.look j oj ok.at_ ok.looks) ok.na
   .exact O.one j ok.us
  rcases key with h|h|h
  .subst h
   rw[E];simp
  .rw[h.2 listed J.closed λoi' U e he Y=>by
    grind]
   exact dT h.1
  .have h1:=h.1
   have:listed.getD j false=false:=by
    cases Y:listed.getD j false with
    |false=>rfl
    |true=>have:=h.listed J.closed Y;rw[E]at this;cases this
   grind
theorem Ng(O:QOK ops n)(W:MOK A B ops n m)(e:HeadInv .any ops n listed)(E:ops[i]? =some oi)(Y:i<n)(M:i∈Region.ready .any ops listed)(J:¬A i)(L:x∈oi.looksAt ops)(U:∀y c,oi.op≠.extract y c):
  Ch ops r m t0 i x=pt ops n r m t0 listed x:=by
 rcases XU O W e E Y M J L with h|⟨_,c,h,_⟩
 .omega
 grind
theorem N4{v v':V}{K:V->Prop}(h:EqC c v v')(e:CD v c K):CD v' c K:=by
 rcases h with rfl|⟨E,n,f,g,rfl,rfl,J⟩
 .omega
 .unfold CD at e⊢
  grind
theorem PR.skip{T:Nat->Nat->Prop}{t:Nat->V}(J:PR C N σ ρ F t a w D T)(E:d<N):
  ∃T',PR C N σ ρ F (AJ t d udV) (a.put (some d) undef) w D T'/\∀x b,T' x b->T x b:=
 ⟨_,J.put (Below.refl _ _) Rel.ud (λ_ h=>h.elim) (λ_ h=>h) (λ_ h=>.inl h) (λb e=>⟨J.wr.Dlt b e,λh=>h⟩) E,λx b e=>by split at e;exact e.elim;grind⟩
theorem H6{Q:Exit->Act->World->Prop}{K:Act->World->Prop}(hq:QOK ops n)(hm:MOK (isA h ops) (isB h ops) ops n m)(inv:HeadInv .any ops n listed)(hi:i<n)(hr:i∈Region.ready .any ops listed)
  (hst:∀j,j<n->∀o,ops[j]? =some o->Jl P h ops σ o (Ch ops r m t0 j) (r j) (m j)) {D:Nat->Prop}{T:Nat->Nat->Prop}{a:Act}{w:World}
  (U:PR C h.n σ ρ F (pt ops n r m t0 listed) a w D T) (hT:∀x b,T x b->P9 ops n X x) (hal:∀oi,ops[i]? =some oi->∀z y,AlP h ops oi z y->a.tmps.getD z undef=a.tmps.getD y undef)
  (hK:∀a' w' D' T',PR C h.n σ ρ F (pt ops n r m t0 (listed.setIfInBounds i true)) a' w' D' T'->(∀x b,T' x b->P9 ops n X x)->(∀x,AK ops i≠some x->a'.tmps[x]? =a.tmps[x]?)->K a' w'):wpOp P ops Q i K a w:=by
 obtain⟨oi,Y,hnl⟩:=hq.dst i hi;have hdoi:AK ops i=oi.dst:=by simp[AK,Y]
 rw[pt_set hq hm inv hi hr,hdoi]at hK
 have hgv:∀j W,oi.guard=some (j,W)->gv (pt ops n r m t0 listed) ops j=gv (Ch ops r m t0 i) ops j:=by
  intro j W hg;unfold gv;split
  .rename_i x J
   rcases XU (r:=r) (t0:=t0) hq hm inv Y hi hr (fun⟨o',ho',ha⟩=>by
    obtain rfl:o'=oi:=Option.some.inj (ho'.symm.trans Y);rw[Ds hg]at ha;cases ha) (x:=x) (by unfold Oper.looksAt;rw[hg];simp[J])with h|⟨h,_⟩
   .exact h.symm
   .rw[hg]at h;cases h
  .rfl
 unfold wpOp;simp only[Y];rcases hst i hi oi Y with⟨hna,hs⟩|⟨ha,d,hd,Z,hri,hmi⟩
 rotate_left
 .obtain⟨hg,y,z,L,hz,_⟩:=Nf ha
  have hw:Region.wanted oi (yielded ops a.tmps)=true:=by simp[Region.wanted,hg]
  rw[if_pos hw];refine .inl ?_;have hrun:(execOp a.eval oi).run P w=.ok (.value (a.eval (.tmp y))) w:=by unfold execOp;rw[L];rfl
  unfold Oper.wp;rw[hrun];show K (a.put oi.dst (a.eval (.tmp y))) w;rw[hd]at hK⊢;rw[hmi,D8,hri]at hK;refine hK _ _ _ _ (U.put (fp:=noF) (Below.refl _ _) (show Rel D w (Am σ ρ w) .dead (a.eval (.tmp y)) noF from λ_ h=>h) (λ_ h=>h.elim) (λ_ h=>h) (λ_ h=>.inl h) (λb E=>⟨U.wr.Dlt b E,λh=>h⟩) Z) (λx b E=>?_) λx J=>BM J
  split at E
  .exact E.elim
  .exact hT x b E
 have hnA:¬isA h ops i:=fun⟨o',ho',ha⟩=>by
  obtain rfl:o'=oi:=Option.some.inj (ho'.symm.trans Y);rw[hna]at ha;cases ha
 rcases hs with⟨d,hd,hs⟩|⟨hg,hmv,hne,hlq⟩|⟨j,W,hg,hgj,Z,hmi⟩
 rotate_left
 .have hw:Region.wanted oi (yielded ops a.tmps)=true:=by simp[Region.wanted,hg]
  rw[if_pos hw];refine .inl (hlq C ρ F a w D T (pt ops n r m t0 listed) (λx J=>?_) (hal oi Y) U K Q λa' w' D' T' hp' hT' htm=>hK a' w' D' T' hp' (λx b E=>?_) htm)
  .have hnx:∀y c,oi.op≠.extract y c:=λy c e=>by rw[e]at hne;cases hne
   rcases J with J|J
   rotate_left
   .cases hl:Bp (m i) x with
    |none=>exact absurd hl J
    |some tk=>
     obtain⟨oi',ok|ok⟩:=hm i hi _ (CW hl)
     .obtain rfl:oi'=oi:=Option.some.inj (ok.at_.symm.trans Y)
      exact(Ng hq hm inv Y hi hr hnA ok.looks hnx).symm
     .exact(agreeA hq hm inv hi hr ok).symm
   refine(Ng hq hm inv Y hi hr hnA ?_ hnx).symm;unfold Hu at J;obtain⟨u,hu,he⟩:=List.mem_filterMap.1 J;cases u with
   |tmp y=>
    cases he;unfold Oper.looksAt;refine List.mem_append_left _ ?_;rw[List.mem_filterMap];exact⟨.tmp x,by simpa using hu,rfl⟩
   |const v=>cases he
   |global g=>cases he
   |func f=>cases he
  .rcases hT' x b E with h|⟨b',h⟩
   .exact .inl ⟨i,hi,hdoi.trans h⟩
   .exact hT x b' h
 .have O:=hgj
  rw[<-hgv j W hg]at O
  have hw:Region.wanted oi (yielded ops a.tmps)=false:=by
   rcases O with O|O
   .have:=U.gv O
    cases W<;>simp[Region.wanted,hg,this]
   .simp[Region.wanted,hg,U.gvN O]
  rw[if_neg (by simp[hw]),Z]
  rw[Z,hmi,D8]at hK;exact hK _ _ _ _ U hT λ_ _=>rfl
 have hdo:AK ops i=some d:=hdoi.trans hd;have htm:∀(v:Value) x,some d≠some x->(a.put (some d) v).tmps[x]? =a.tmps[x]?:=λv x J=>BM J
 have hT':∀(fp:Nat->Prop) x b,(if x=d then fp else T x) b->P9 ops n X x:=by
  intro fp x b E;split at E
  .rename_i J;subst J;exact .inl ⟨i,hi,hdo⟩
  .exact hT x b E
 rw[hd]at hK;rcases hs with⟨⟨Z,hg,r',hqop,hri⟩|⟨j,W,hg,hgj,Z,hri⟩,hmi⟩|⟨Z,hg,hfz,hmv,hmq⟩
 .rw[hmi,D8]at hK
  have hw:Region.wanted oi (yielded ops a.tmps)=true:=by
   rcases hg with hg|⟨j,W,hg,hgj⟩
   .simp[Region.wanted,hg]
   .rw[<-hgv j W hg]at hgj
    simp[Region.wanted,hg,U.gv hgj]
  rw[if_pos hw];refine .inl ?_;have look:∀y,Operand.tmp y∈oi.op.operands->y∈oi.looksAt ops:=by
   intro y J;unfold Oper.looksAt;refine List.mem_append_left _ ?_;rw[List.mem_filterMap];exact⟨.tmp y,by simpa using J,rfl⟩
  have hqop':qop P σ (Ms.ev ⟨pt ops n r m t0 listed,σ⟩) oi.op (λx=>x=r'):=by
   by_cases hex:∃y c,oi.op=.extract (.tmp y) c
   .obtain⟨y,c,L⟩:=hex
    have hE:EqC c (Ch ops r m t0 i y) (pt ops n r m t0 listed y):=by
     rcases XU (r:=r) (t0:=t0) hq hm inv Y hi hr hnA (x:=y) (look y (by rw[L];simp[Op.operands]))with h|⟨_,c',h,h'⟩
     .exact .inl h
     .rw[L]at h;cases h;exact h'
    rw[L]at hqop⊢;exact N4 (K:=λr0=>∃r,Sub r0 r/\r=r') hE hqop
   .refine WI (λx J=>?_) hqop
    cases x with
    |tmp y=>
     show Ch ops r m t0 i y=pt ops n r m t0 listed y;rcases XU (r:=r) (t0:=t0) hq hm inv Y hi hr hnA (look y J)with h|⟨_,c,h,_⟩
     .exact h
     .exact absurd ⟨y,c,h⟩ hex
    |const v=>rfl
    |global g=>rfl
    |func f=>rfl
  obtain⟨r2,rfl,hy⟩:=NX (o:=oi) U.ok U.wr (λx _=>U.ev x) hqop'
  refine hy K Q λv' w' D' fp hB hr' hf hd1 hd2 hd3=>?_
  rw[hd];rw[hri]at hK;split at hK
  .refine hK _ _ _ _ (U.put (D':=λb=>D' b\/fp b) (fp:=noF) hB (Rel.frz _ _ _ hr') (λ_ h=>h.elim) (λb E=>.inl (hd1 b E)) (λb E=>?_) (λb E=>⟨?_,λh=>h⟩) Z) (hT' _) (htm _)
   .rcases E with E|E
    .exact hd2 b E
    .exact .inr (hf b E)
   .rcases E with E|E
    .exact(hd3 b E).1
    .exact Rel.lt _ _ _ hr' b E
  .exact hK _ _ _ _ (U.put hB hr' hf hd1 hd2 hd3 Z) (hT' _) (htm _)
 .rw[hmi,D8]at hK
  have O:=hgj;rw[<-hgv j W hg]at O
  have hw:Region.wanted oi (yielded ops a.tmps)=false:=by
   rcases O with O|O
   .have:=U.gv O
    cases W<;>simp[Region.wanted,hg,this]
   .simp[Region.wanted,hg,U.gvN O]
  rw[if_neg (by simp[hw]),hd]
  rw[hri]at hK;obtain⟨T',hp',hsub⟩:=U.skip Z;exact hK _ _ _ _ hp' (λx b E=>hT x b (hsub x b E)) (htm _)
 .have hw:Region.wanted oi (yielded ops a.tmps)=true:=by simp[Region.wanted,hg]
  rw[if_pos hw];refine .inl ?_;have hlook:∀p∈m i,p.1∈oi.looksAt ops:=by
   intro p U;have look:∀y,Operand.tmp y∈oi.op.operands->y∈oi.looksAt ops:=by
    intro y J;unfold Oper.looksAt;refine List.mem_append_left _ ?_;rw[List.mem_filterMap];exact⟨.tmp y,by simpa using J,rfl⟩
   rcases hmq with⟨y,L,hys,_⟩|⟨y,c,nn,f,L,hys,_⟩
   .rw[hys,List.mem_singleton]at U
    rw[U];exact look y (by rcases L with L|L<;>(rw[L];simp[Op.operands]))
   .rw[hys,List.mem_singleton]at U
    rw[U];exact look y (by rw[L];simp[Op.operands])
  rcases hmq with⟨y,L,hys,hri⟩|⟨y,c,nn,f,L,hys,hty,hcn,hri⟩
  .rw[hys]at hK hlook
   rw[Ng hq hm inv Y hi hr hnA (hlook (y,.put (hdV (r i))) (by simp)) (by rintro z c h;rcases L with L|L<;>(rw[L]at h;cases h))]at hri
   have hrun:(execOp a.eval oi).run P w=.ok (.value (a.eval (.tmp y))) w:=by unfold execOp;rcases L with L|L<;>(rw[L];rfl)
   unfold Oper.wp;rw[hrun];show K (a.put oi.dst (a.eval (.tmp y))) w;rw[hd]
   obtain⟨fp,hrel,hfp⟩:∃fp,Rel D w (Am σ ρ w) (r i) (a.eval (.tmp y)) fp/\∀b,fp b->T y b:=by
    rw[hri];by_cases hy:y<h.n
    .exact⟨T y,U.tm y hy,λ_ h=>h⟩
    .exact⟨noF,by rw[U.dd y (Nat.le_of_not_lt hy)];exact λ_ h=>h,λ_ h=>h.elim⟩
   have kM:∀x,AV [(y,.put (hdV (r i)))] (pt ops n r m t0 listed) x=if x=y then hdV (r i)else pt ops n r m t0 listed x:=by
    intro x;unfold AV;by_cases J:x=y
    .subst J
     rw[if_pos rfl];show Im (if x=x then some (.put (hdV (r i)))else none) _=_
     rw[if_pos rfl];rfl
    .rw[if_neg J]
     show Im (if y=x then some (.put (hdV (r i)))else none) _=_
     rw[if_neg (Ne.symm J)];rfl
   refine hK _ _ _ _ (U.move (t1:=AV [(y,.put (hdV (r i)))] (pt ops n r m t0 listed)) (T1:=λx=>if x=y then noF else T x) (λx J=>?_) (λx b E=>?_) (λx J=>?_) (Below.refl _ _) hrel (λb E=>.inl ⟨y,hfp b E,λx J=>?_⟩) (λ_ h=>h) (λ_ h=>.inl h) (λb E=>⟨U.wr.Dlt b E,λh=>U.tD y b (hfp b h) E⟩) Z) (λx b E=>?_) (htm _)
   .rw[kM]
    by_cases M:x=y
    .rw[if_pos M,if_pos M,M];exact hrel.hd
    .rw[if_neg M,if_neg M];exact U.tm x J
   .split at E
    .exact E.elim
    .exact E
   .rw[kM]
    split
    .rename_i M
     rw[hri,<-M,U.dd x J];rfl
    .exact U.dd x J
   .split at J
    .exact J.elim
    .rename_i M;exact U.tT x y b M J (hfp b E)
   .split at E
    .rename_i J;subst J;exact .inl ⟨i,hi,hdo⟩
    .split at E
     .exact E.elim
     .exact hT x b E
  .rw[hys]at hK hlook
   -- the part, and what is left
   obtain⟨g,hg',hgc⟩:∃g,pt ops n r m t0 listed y=.many .tu nn g/\g c=f c:=by
    rcases XU (r:=r) (t0:=t0) hq hm inv Y hi hr hnA (hlook (y,.part c) (by simp))with h|⟨_,c',h,h'⟩
    .exact⟨f,h▸hty,rfl⟩
    .rw[L]at h
     cases h;rcases h' with h'|⟨tg,n2,f2,g2,h1,h2,h3⟩
     .exact⟨f,h'▸hty,rfl⟩
     .rw[hty]at h1
      cases h1;exact⟨g2,h2,h3.symm⟩
   have hyn:y<h.n:=by
    rcases Nat.lt_or_ge y h.n with h'|h'
    .exact h'
    .rw[U.dd y h']at hg';cases hg'
   have hry:=U.tm y hyn;rw[hg']at hry;obtain⟨cs,G,hcv,hcs,hrel,hdis,hfp⟩:=hry;have hcv:a.eval (.tmp y)=.tuple cs:=hcv
   have hrun:(execOp a.eval oi).run P w=.ok (.value (cs.getD c undef)) w:=by
    unfold execOp;rw[L];simp[Instr.extract,hcv,hcs,hcn]
   unfold Oper.wp;rw[hrun];show K (a.put oi.dst (cs.getD c undef)) w;rw[hd];have hrc:Rel D w (Am σ ρ w) (r i) (cs.getD c undef) (G c):=by rw[hri,<-hgc];exact hrel c hcn
   have kM:∀x,AV [(y,.part c)] (pt ops n r m t0 listed) x=if x=y then OD c (.many .tu nn g)else pt ops n r m t0 listed x:=by
    intro x;unfold AV;by_cases J:x=y
    .subst J
     rw[if_pos rfl];show Im (if x=x then some (.part c)else none) _=_
     rw[if_pos rfl,hg'];rfl
    .rw[if_neg J]
     show Im (if y=x then some (.part c)else none) _=_
     rw[if_neg (Ne.symm J)];rfl
   refine hK _ _ _ _ (U.move (t1:=AV [(y,.part c)] (pt ops n r m t0 listed)) (T1:=λx=>if x=y then λb=>∃k,k<nn/\k≠c/\G k b else T x) (λx J=>?_) (λx b E=>?_) (λx J=>?_) (Below.refl _ _) hrc (λb E=>.inl ⟨y,(hfp b).2 ⟨c,hcn,E⟩,λx J=>?_⟩) (λ_ h=>h) (λ_ h=>.inl h) (λb E=>⟨U.wr.Dlt b E,λh=>U.tD y b ((hfp b).2 ⟨c,hcn,h⟩) E⟩) Z) (λx b E=>?_) (htm _)
   .rw[kM]
    by_cases M:x=y
    .rw[if_pos M,if_pos M]
     subst M;refine⟨cs,λk=>if k=c then noF else G k,hcv,hcs,λk hk=>?_,λk k' b hk hk' hne h1 h2=>?_,λb=>⟨fun⟨k,h1,h2,h3⟩=>⟨k,h1,by show(if k=c then noF else G k) b;rw[if_neg h2];exact h3⟩,fun⟨k,h1,h2⟩=>?_⟩⟩
     .show Rel D w _ (if k=c then .dead else g k) _ (if k=c then noF else G k)
      by_cases hkc:k=c
      .rw[if_pos hkc,if_pos hkc];exact λ_ h=>h
      .rw[if_neg hkc,if_neg hkc];exact hrel k hk
     .have h1:(if k=c then noF else G k) b:=h1
      have h2:(if k'=c then noF else G k') b:=h2
      split at h1
      .exact h1
      .split at h2
       .exact h2
       .exact hdis k k' b hk hk' hne h1 h2
     .have h2:(if k=c then noF else G k) b:=h2
      split at h2
      .exact h2.elim
      .rename_i hkc;exact⟨k,h1,hkc,h2⟩
    .rw[if_neg M,if_neg M];exact U.tm x J
   .split at E
    .rename_i M
     subst M;obtain⟨k,h1,_,h3⟩:=E;exact(hfp b).2 ⟨k,h1,h3⟩
    .exact E
   .rw[kM]
    have:x≠y:=λe=>absurd hyn (Nat.not_lt.2 (e▸J))
    rw[if_neg this];exact U.dd x J
   .split at J
    .obtain⟨k,h1,h2,h3⟩:=J
     exact hdis k c b h1 hcn h2 h3 E
    .rename_i M;exact U.tT x y b M J ((hfp b).2 ⟨c,hcn,E⟩)
   .split at E
    .rename_i J;subst J;exact .inl ⟨i,hi,hdo⟩
    .split at E
     .rename_i M
      subst M;obtain⟨k,h1,_,h3⟩:=E;exact hT x b ((hfp b).2 ⟨k,h1,h3⟩)
     .exact hT x b E
theorem JF{Q:Exit->Act->World->Prop}(hq:QOK ops n)(htl:n=ops.size\/Region.chainB .any ops n=true):∀(J m:Nat) (listed:Array Bool) (a:Act) (w:World),n<=m->m<=ops.size->ops.size<=m+J->listed.size=ops.size->
  (∀j,j<ops.size->listed.getD j true=decide (j<m))->wpList P ops Q (ops.toList.drop m) a w->wpAny P .any ops Q J listed a w:=by
 have U:∀{listed:Array Bool}{j m:Nat},listed.size=ops.size->(∀j,j<ops.size->listed.getD j true=decide (j<m))->j<ops.size->listed.getD j false=decide (j<m):=by
  intro listed j m Y L O;have:=L j O;rw[<-Y]at O;simp[O]at this⊢;exact this
 intro J
 induction J with
 |zero=>
  intro m listed a w hnm hm hf Y L W;obtain rfl:m=ops.size:=by omega
  refine⟨?_,?_⟩
  .cases hr:Region.ready .any ops listed with
   |nil=>rfl
   |cons j js=>
    have O:j∈Region.ready .any ops listed:=by rw[hr];simp
    obtain⟨M,o,ho,_⟩:=mem_ready.1 O;have E:j<ops.size:=(Array.getElem?_eq_some_iff.1 ho).1;rw[L j E]at M;simp[E]at M
  .have:ops.toList.drop ops.size=[]:=by simp
   rw[this]at W;exact W
 |succ f ih=>
  intro m listed a w hnm hm hf Y L W;by_cases hms:m=ops.size
  .subst hms
   have hnil:Region.ready .any ops listed=[]:=by
    cases hr:Region.ready .any ops listed with
    |nil=>rfl
    |cons j js=>
     have O:j∈Region.ready .any ops listed:=by rw[hr];simp
     obtain⟨M,o,ho,_⟩:=mem_ready.1 O;have E:j<ops.size:=(Array.getElem?_eq_some_iff.1 ho).1;rw[L j E]at M;simp[E]at M
   refine⟨λ_=>?_,λi hi=>by rw[hnil]at hi;cases hi⟩
   have:ops.toList.drop ops.size=[]:=by simp
   rw[this]at W;exact W
  .have E:m<ops.size:=by omega
   have Z:ops[m]? =some ops[m]:=by simp[E]
   have hmr:m∈Region.ready .any ops listed:=by
    refine mem_ready.2 ⟨by rw[L m E];simp,ops[m],Z,λe he hb=>?_⟩
    have M:=hq.back m ops[m] e Z he hb;rw[U Y L (by omega)]
    simp[M]
   refine⟨λh0=>(by rw[h0]at hmr;cases hmr),λi hi=>?_⟩
   have him:i=m:=by
    obtain⟨M,o,ho,hall⟩:=mem_ready.1 hi;have hil:i<ops.size:=(Array.getElem?_eq_some_iff.1 ho).1;rw[L i hil]at M;simp at M;by_cases he:i=m
    .exact he
    .rcases htl with ht|hc
     .omega
     .have h2:=aET.1 hc i (List.mem_range.2 hil)
      simp only[Bool.or_eq_true,decide_eq_true_eq]at h2;rcases h2 with h2|h2
      .omega
      .obtain⟨o',ho',e,he',hb,hon⟩:=Region.waitsFor_spec h2
       obtain rfl:o'=o:=Option.some.inj (ho'.symm.trans ho);have h3:=hall e he' hb;rw[hon,U Y L (by omega)]at h3
       simp at h3;omega
   subst him
   have hdrop:ops.toList.drop i=ops[i]::ops.toList.drop (i+1):=by
    have:=List.drop_eq_getElem_cons (l:=ops.toList) (i:=i) (by simpa using E)
    simpa using this
   rw[hdrop]at W
   have hw':wpOp P ops Q i (wpList P ops Q (ops.toList.drop (i+1))) a w:=by
    unfold wpOp;simp only[Z];exact W
   refine wpOp_mono (λa' w' h'=>ih (i+1) _ a' w' (by omega) (by omega) (by omega) (by simpa using Y) (λj O=>?_) h') hw'
   by_cases hij:i=j
   .subst hij
    have:i<listed.size:=by rw[Y];exact E
    simp[this]
   .rw[getD_set_ne true hij,L j O]
    have:(j<i)=(j<i+1):=by
     apply propext;constructor<;>intro _<;>omega
    simp[this]
def unl(listed:Array Bool)(n:Nat):Nat:=(List.range n).countP λi=>!listed.getD i true
theorem Pe(L:i<listed.size)(J:listed.getD i true=false):∀n,unl (listed.setIfInBounds i true) n+(if i<n then 1 else 0)=unl listed n:=by
 intro n
 induction n with
 |zero=>rfl
 |succ n E=>
  unfold unl at E⊢;rw[List.range_succ,List.countP_append];simp only[List.countP_singleton];by_cases e:i=n
  .simp_all
  .rw[getD_set_ne true e]
   grind
theorem Pf(e:listed.getD i true=false):∀n,i<n->0<unl listed n:=by
 intro n hn;unfold unl;rw[List.countP_pos_iff]
 grind
theorem Dz(h:dst≠some d):(a.put (some d) v).put dst u=(a.put dst u).put (some d) v:=by
 cases dst with
 |none=>rfl
 |some e=>
  have E:d≠e:=λJ=>h (by grind)
  unfold Act.put;simp;rw[Array.setIfInBounds_comm _ _ E]
theorem Uo{Q:Exit->Act->World->Prop}{K' K:Act->World->Prop}{d:Nat}{v:Value}(ho:ops[i]? =some o)(O:∀e a w,e≠.normal->¬Q0 e a w)(hs:∀cs b,o.op≠.select cs b)
  (Z:d∉o.looksAt ops) (hd:o.dst≠some d) (M:∀a1 Y,(∀x,o.dst≠some x->a1.tmps[x]? =a.tmps[x]?)->K' (a1.put (some d) v) Y->K a1 Y)
  (h:wpOp P ops Q0 i K' (a.put (some d) v) w):wpOp P ops Q i K a w:=by
 unfold wpOp at h⊢;simp only[ho]at h⊢;rw[wanted_put o a (some d) v (λd' L=>by cases L;exact Z)]at h
 split
 .rename_i W
  rw[if_pos W]at h;rcases h with h|⟨_,_,_,h⟩
  .left
   unfold Oper.wp at h⊢;rw[execOp_put (ops:=ops) o hs a (some d) v (λd' L=>by cases L;exact Z)]at h
   generalize (execOp a.eval o).run P w=r at h⊢;cases r with
   |ok n w'=>
    cases n with
    |value u=>exact M _ _ (λx E=>BM E) (Dz hd▸h)
    |skip=>exact M _ _ (λx E=>BM E) (Dz hd▸h)
    |defer u=>exact M ({a with defers:=u::a.defers}.put o.dst undef) w' (λx E=>BM (a:={a with defers:=u::a.defers}) E) (Dz hd▸h)
    |enter f args=>exact Calls.mono h (λe U J=>by
      cases e with
      |returned u=>exact M _ _ (λx E=>BM E) (Dz hd▸J)
      |panicked c=>exact(O _ _ _ (by simp) J).elim
      |outgrown=>obtain⟨_,_,J⟩:=J;exact(O _ _ _ (by simp) J).elim)
    |row r args=>exact Rows.mono h (λu U J=>M _ _ (λx E=>BM E) (Dz hd▸J))
    |_=>exact h
   |halt x w'=>
    cases x<;>first|exact h.elim|exact(O _ _ _ (by simp) h).elim
  .exact(O _ _ _ (by simp) h).elim
 .rename_i W
  rw[if_neg W]at h;exact M _ _ (λx E=>BM E) (Dz hd▸h)
def QN(Q:Exit->Act->World->Prop):Exit->Act->World->Prop:=λe a w=>e=.normal/\Q .normal a w
theorem Acm:∀e a w,e≠.normal->¬QN Q e a w:=λ_ _ _ h E=>h E.1
theorem VN{Q:Exit->Act->World->Prop}{i:Nat}(U:∀e a w,e≠.normal->¬Q0 e a w)(J:∀a1 M,K' a1 M->K a1 M)
  (h:wpOp P ops Q0 i K' a w):wpOp P ops Q i K a w:=by
 unfold wpOp at h⊢;split
 .grind
 rename_i o ho;simp only[ho]at h;split
 .rename_i O
  rw[if_pos O]at h;rcases h with h|⟨_,_,_,h⟩
  .left
   unfold Oper.wp at h⊢;generalize (execOp a.eval o).run P w=r at h⊢;cases r with
   |ok n w'=>
    cases n with
    |value u=>exact J _ _ h
    |skip=>exact J _ _ h
    |defer u=>exact J _ _ h
    |enter f args=>exact Calls.mono h (λe L E=>by
      cases e with
      |returned u=>exact J _ _ E
      |panicked c=>grind
      |outgrown=>obtain⟨_,_,E⟩:=E;grind)
    |row r args=>exact Rows.mono h (λu L E=>J _ _ E)
    |_=>exact h
   |halt x w'=>
    cases x<;>first|exact h.elim|exact(U _ _ _ (by simp) h).elim
  grind
 grind
theorem JC:∀(m:Nat) (a:Act) (w:World),ops.size-m<=ops.size->wpList P ops (QN Q) (ops.toList.drop m) a w->wpList P ops Q (ops.toList.drop m) a w:=by
 intro m
 induction hk:ops.size-m generalizing m with
 |zero=>
  intro a w _ h;have e:ops.toList.drop m=[]:=List.drop_eq_nil_of_le (by simp;omega)
  rw[e]at h⊢;exact h.2
 |succ k M=>
  intro a w _ h;have J:m<ops.size:=by omega
  have E:=by
   have:=List.drop_eq_getElem_cons (l:=ops.toList) (i:=m) (by grind)
   omega
  rw[E]at h⊢
  have U:wpOp P ops (QN Q) m (wpList P ops (QN Q) (ops.toList.drop (m+1))) a w:=by
   unfold wpOp;simp only[show ops[m]? =some ops[m] by simp];exact h
  have:=VN (Q:=Q) Acm (λa1 L O=>M (m+1) (by omega) a1 L (by omega) O) U
  unfold wpOp at this;simp only[show ops[m]? =some ops[m] by simp[J]]at this
  exact this
structure FI(P:Program)(ops:Array Oper)(Q:Exit->Act->World->Prop)(f m:Nat)(d y c:Nat)(v:Value)(listed:Array Bool)(a:Act)(w:World):Prop where
 sz:listed.size=ops.size
 ls:∀j,j<ops.size->listed.getD j true=decide (j<m/\j≠f)
 pu:∃cs,a.tmps[y]? =some (.tuple cs)/\cs[c]? =some v
 wl:wpList P ops (QN Q) (ops.toList.drop m) (a.put (some d) v) w
theorem Js{j:Nat}{p:Prop} [Decidable p](e:listed.size=ops.size)(E:j<ops.size)(h:listed.getD j true=decide p):listed.getD j false=decide p:=by grind
theorem Lw{Q:Exit->Act->World->Prop}{m c:Nat}{v:Value}(hfm:f<m)(W:m<ops.size){listed:Array Bool}{a:Act}{w:World}{ot:Oper}(E:ops[m]? =some ot)(h1:d∉ot.looksAt ops)(h2:ot.dst≠some d)(h3:ot.dst≠some y)(h4:∀cs b,ot.op≠.select cs b)
  (h:FI P ops Q f m d y c v listed a w):wpOp P ops Q m (FI P ops Q f (m+1) d y c v (listed.setIfInBounds m true)) a w:=by
 have e:ops.toList.drop m=ot::ops.toList.drop (m+1):=by
  have:=List.drop_eq_getElem_cons (l:=ops.toList) (i:=m) (by simpa using W)
  grind
 have U:=h.wl;rw[e]at U
 have L:wpOp P ops (QN Q) m (wpList P ops (QN Q) (ops.toList.drop (m+1))) (a.put (some d) v) w:=by
  unfold wpOp;simp only[E];exact U
 refine Uo E Acm h4 h1 h2 (λa1 w1 O Y=>⟨by simpa using h.sz,λj Z=>?_,?_,Y⟩) L
 .by_cases J:m=j
  .subst J
   have:m<listed.size:=by rw[h.sz];exact W
   have M:m≠f:=by omega
   simp[this,M]
  .rw[getD_set_ne true J,h.ls j Z]
   grind
 .obtain⟨cs,g1,g2⟩:=h.pu
  exact⟨cs,by rw[O y h3];exact g1,g2⟩
theorem Zh{Q:Exit->Act->World->Prop}(hq:QOK ops n)(hc:Region.chainB .any ops n=true)(fl:FL ops n f)(U:ops[f]? =some o)(hog:o.guard=none)(hop:o.op=.extract (.tmp y) c)(hod:o.dst=some d)
  (hot:∀t ot,n<=t->ops[t]? =some ot->Region.waitsFor .any ops t f=false->d∉ot.looksAt ops/\ot.dst≠some d/\ot.dst≠some y/\∀cs b,ot.op≠.select cs b) {v:Value}:
  ∀(J m:Nat) (listed:Array Bool) (a:Act) (w:World),n<=m->m<=ops.size->ops.size+1<=m+J->FI P ops Q f m d y c v listed a w->wpAny P .any ops Q J listed a w:=by
 intro J
 induction J with
 |zero=>intro m listed a w _ h1 h2;omega
 |succ g ih=>
  intro m listed a w hnm hms hf h;have hfn:=fl.fn;have Z:f<ops.size:=by have:=hq.le;omega
  have hfr:f∈Region.ready .any ops listed:=by
   refine mem_ready.2 ⟨by rw[h.ls f Z];simp,o,U,λe he hb=>?_⟩
   have h1:=hq.back f o e U he hb;rw[Js h.sz (by omega) (h.ls e.on (by omega))]
   exact dT ⟨by omega,by omega⟩
  refine⟨λh0=>(by rw[h0]at hfr;cases hfr),λi hi=>?_⟩
  obtain⟨h1,oi,E,M⟩:=mem_ready.1 hi;have L:i<ops.size:=(Array.getElem?_eq_some_iff.1 E).1;rw[h.ls i L]at h1;have h1:=of_decide_eq_false h1;by_cases hif:i=f
  .subst hif
   obtain rfl:oi=o:=Option.some.inj (E.symm.trans U);unfold wpOp;simp only[E];have hw:Region.wanted oi (yielded ops a.tmps)=true:=by simp[Region.wanted,hog]
   rw[if_pos hw];left;obtain⟨cs,g1,g2⟩:=h.pu;have hev:a.eval (.tmp y)=.tuple cs:=by
    show a.tmps.getD y undef=_;simp[Array.getD_eq_getD_getElem?,g1]
   have hrun:(execOp a.eval oi).run P w=.ok (.value v) w:=by
    unfold execOp;rw[hop];simp[Instr.extract,hev,g2]
   unfold Oper.wp;rw[hrun];show wpAny P .any ops Q g _ (a.put oi.dst v) w;rw[hod];refine JF hq (.inr hc) g m _ _ w hnm hms (by omega) (by simpa using h.sz) (λj hj=>?_) (JC m _ w (by omega) h.wl)
   by_cases Y:i=j
   .subst Y
    have:i<listed.size:=by rw[h.sz];exact L
    have hlt:i<m:=by omega
    simp[this,hlt]
   .rw[getD_set_ne true Y,h.ls j hj]
    have:(j<m/\j≠i)=(j<m):=propext ⟨λh=>h.1,λh=>⟨h,Ne.symm Y⟩⟩
    simp only[this]
  .have hnot:¬i<m:=λh=>h1 ⟨h,hif⟩
   have him:i=m:=by
    have h2:=aET.1 hc i (List.mem_range.2 L);simp only[Bool.or_eq_true,decide_eq_true_eq]at h2;rcases h2 with h2|h2
    .omega
    .by_cases he:i=m
     .exact he
     .obtain⟨o',W,e,he',hb,O⟩:=Region.waitsFor_spec h2
      obtain rfl:o'=oi:=Option.some.inj (W.symm.trans E);have h3:=M e he' hb;rw[O,Js h.sz (by omega) (h.ls (i-1) (by omega))]at h3
      have:=(of_decide_eq_true h3).1;omega
   subst him;have hnw:Region.waitsFor .any ops i f=false:=by
    cases hwf:Region.waitsFor .any ops i f with
    |false=>rfl
    |true=>
     obtain⟨o',W,e,he',hb,O⟩:=Region.waitsFor_spec hwf;obtain rfl:o'=oi:=Option.some.inj (W.symm.trans E);have h3:=M e he' hb;rw[O,Js h.sz Z (h.ls f Z)]at h3;exact absurd rfl (of_decide_eq_true h3).2
   obtain⟨g1,g2,g3,g4⟩:=hot i oi hnm E hnw;exact wpOp_mono (λa1 w1 hk=>ih (i+1) _ a1 w1 (by omega) (by omega) (by omega) hk) (Lw (by omega) L E g1 g2 g3 g4 h)
theorem WQ(E:QOK ops n)(M:MOK A B ops n m)(W:listed.size=ops.size)(J:∀i,i<n->listed.getD i true=true):pt ops n r m t0 listed=Ch ops r m t0 n:=by
 have O:=E.le;have L:∀k,k<n->listed.getD k false=true:=λk e=>by
  grind
 funext x
 rw[HP E M r t0 x n (Nat.le_refl _)];unfold pt;cases ho:CT ops n x with
 |none=>exact Cy n λi U=>by grind
 |some k=>
  have e:=(Bn ho).1;simp only[L k e,e,if_true];exact Cy n λi U=>by grind
theorem JB{Q:Exit->Act->World->Prop}{K:Act->World->Prop}{i:Nat}{a:Act}{w:World}
  (e:wpOp P ops Q i (λE w'=>(∀o y z,ops[i]? =some o->o.guard=none->o.op=.move (.tmp y)->o.dst=some z->E=a.put (some z) (a.eval (.tmp y)))->K E w') a w):wpOp P ops Q i K a w:=by
 unfold wpOp at e⊢;cases ho:ops[i]? with
 |none=>
  simp only[ho]at e⊢;exact e λo _ _ h=>by cases h
 |some o=>
  simp only[ho]at e⊢;by_cases O:∃y z,o.guard=none/\o.op=.move (.tmp y)/\o.dst=some z
  .obtain⟨y,z,W,U,hd⟩:=O
   have L:Region.wanted o (yielded ops a.tmps)=true:=by simp[Region.wanted,W]
   rw[if_pos L]at e⊢;rcases e with e|e
   .left
    have M:(execOp a.eval o).run P w=.ok (.value (a.eval (.tmp y))) w:=by unfold execOp;rw[U];rfl
    unfold Oper.wp at e⊢;rw[M]at e⊢;rw[Oper.upon_value]at e⊢
    grind
   .exact .inr e
  .have key:∀E w',((∀J y z,some o=some J->J.guard=none->J.op=.move (.tmp y)->J.dst=some z->E=a.put (some z) (a.eval (.tmp y)))->K E w')->K E w':=λE w' h=>h λJ y z h1 h2 Z Y=>by
    cases h1;exact absurd ⟨y,z,h2,Z,Y⟩ O
   split
   .rename_i L
    rw[if_pos L]at e;exact e.imp (Oper.wp_mono λE w'=>key E w') id
   .rename_i L
    rw[if_neg L]at e;exact key _ _ e
def AlI(h:Cz)(ops:Array Oper)(n:Nat)(listed:Array Bool)(a:Act):Prop:=∀j,j<n->listed.getD j false=true->∀c,ops[j]? =some c->alM h ops c=true->∀y z,c.op=.move (.tmp y)->c.dst=some z->a.tmps.getD z undef=a.tmps.getD y undef
theorem AlI.at(hI:AlI h ops n listed a)(hq:QOK ops n)(hi:i<n)(hr:i∈Region.ready .any ops listed):∀oi,ops[i]? =some oi->∀z y,AlP h ops oi z y->a.tmps.getD z undef=a.tmps.getD y undef:=by
 rintro oi E z y ⟨e,U,W,c,hc,O,L,hd⟩
 obtain⟨Z,Y,M,J⟩:=mem_ready.1 hr;obtain rfl:oi=Y:=Option.some.inj (E.symm.trans M);have hlt:=hq.back i oi e E U W;exact hI e.on (by omega) (J e U W) c hc O y z L hd
theorem AlI.set{Y:Act}(hI:AlI h ops n listed a)(hq:QOK ops n)
  (hst:∀j,j<n->∀o,ops[j]? =some o->Jl P h ops σ o (Ch ops r m t0 j) (r j) (m j)) (inv:HeadInv .any ops n listed) {i:Nat} (hi:i<n) (hsz:a.tmps.size=h.n)
  (O:∀x,AK ops i≠some x->Y.tmps[x]? =a.tmps[x]?) (hmv:∀o y z,ops[i]? =some o->o.guard=none->o.op=.move (.tmp y)->o.dst=some z->Y=a.put (some z) (a.eval (.tmp y))):AlI h ops n (listed.setIfInBounds i true) Y:=by
 intro j hj hl c W M y z J hd;obtain⟨hg,y2,z2,E,hd2,hnd⟩:=Nf M;rw[J]at E;cases E;have hy:Y.tmps.getD y undef=a.tmps.getD y undef:=by
  rw[Array.getD_eq_getD_getElem?,Array.getD_eq_getD_getElem?,O y (hnd i)]
 by_cases L:j=i
 .subst L
  have hz:z<h.n:=by
   rcases hst j hj c W with⟨U,_⟩|⟨_,d,hd3,hdn,_⟩
   .rw[M]at U;cases U
   grind
  have e:=hmv c y z W hg J hd;rw[hy,e,BL];have Z:z<a.tmps.size:=by rw[hsz];exact hz
  show _=a.eval (.tmp y);simp[Z]
 .rw[getD_set_ne false (Ne.symm L)]at hl
  have hz:AK ops i≠some z:=by
   intro he;exact(hq.ne i j z c hi hj (Ne.symm L) he W).1 hd
  rw[hy,Array.getD_eq_getD_getElem?,O z hz,<-Array.getD_eq_getD_getElem?];exact hI j hj hl c W M y z J hd
theorem Ab0{Q:Exit->Act->World->Prop}(hq:QOK ops n)(htl:Um ops n)(hm:MOK (isA h ops) (isB h ops) ops n m)
  (hst:∀j,j<n->∀o,ops[j]? =some o->Jl P h ops σ o (Ch ops r m t0 j) (r j) (m j))
  {a0:Act} (hend:∀a w D T,PR C h.n σ ρ F (Ch ops r m t0 n) a w D T->(∀x b,T x b->P9 ops n X x)->(∀x,(∀i,i<n->AK ops i≠some x)->a.tmps[x]? =a0.tmps[x]?)->wpList P ops Q (ops.toList.drop n) a w)
  (hend0:∀a w D T,PR C h.n σ ρ F (Ch ops r m t0 n) a w D T->(∀x b,T x b->P9 ops n X x)->(∀x,(∀i,i<n->AK ops i≠some x)->a.tmps[x]? =a0.tmps[x]?)->wpList P ops (QN Q) (ops.toList.drop n) a w):
  ∀(fuel:Nat) (listed:Array Bool) (a:Act) (w:World) (D:Nat->Prop) (T:Nat->Nat->Prop),HeadInv .any ops n listed->unl listed n+(ops.size-n)<=fuel->
   PR C h.n σ ρ F (pt ops n r m t0 listed) a w D T->(∀x b,T x b->P9 ops n X x)->(∀x,(∀i,i<n->AK ops i≠some x)->a.tmps[x]? =a0.tmps[x]?)->AlI h ops n listed a->wpAny P .any ops Q fuel listed a w:=by
 intro fuel
 induction fuel with
 |zero=>
  intro listed a w D T J hf hp hT hA hI;have hle:=hq.le;have M:∀i,i<n->listed.getD i true=true:=by
   intro i Y;cases hu:listed.getD i true with
   |true=>rfl
   |false=>have:=Pf hu n Y;omega
  have hpt:pt ops n r m t0 listed=Ch ops r m t0 n:=by
   funext x
   rw[HP hq hm r t0 x n (Nat.le_refl _)];unfold pt;have ld:∀k,k<n->listed.getD k false=true:=λk O=>by
    have h1:=M k O;have h2:k<listed.size:=by rw[J.size];omega
    simp[h2]at h1⊢;exact h1
   cases ho:CT ops n x with
   |none=>exact Cy n λi Y=>by rw[ld i Y];simp[Y]
   |some k=>
    have O:=(Bn ho).1;simp only[ld k O,O,if_true];exact Cy n λi Y=>by rw[ld i Y];simp[Y]
  rw[hpt]at hp;refine JF hq (htl.imp id And.left) 0 n listed a w (Nat.le_refl _) hle (by omega) J.size (λj hj=>?_) (hend _ _ _ _ hp hT hA)
  by_cases L:j<n
  .rw[M j L];simp[L]
  .rw[J.tail j (by omega) hj];simp[L]
 |succ f ih=>
  intro listed a w D T J hf hp hT hA hI;have hle:=hq.le;by_cases M:∀i,i<n->listed.getD i true=true
  .have hpt:pt ops n r m t0 listed=Ch ops r m t0 n:=by
    funext x
    rw[HP hq hm r t0 x n (Nat.le_refl _)];unfold pt;have ld:∀k,k<n->listed.getD k false=true:=λk O=>by
     have h1:=M k O;have h2:k<listed.size:=by rw[J.size];omega
     simp[h2]at h1⊢;exact h1
    cases ho:CT ops n x with
    |none=>exact Cy n λi Y=>by rw[ld i Y];simp[Y]
    |some k=>
     have O:=(Bn ho).1;simp only[ld k O,O,if_true];exact Cy n λi Y=>by rw[ld i Y];simp[Y]
   rw[hpt]at hp;refine JF hq (htl.imp id And.left) (f+1) n listed a w (Nat.le_refl _) hle (by omega) J.size (λj hj=>?_) (hend _ _ _ _ hp hT hA)
   by_cases L:j<n
   .rw[M j L];simp[L]
   .rw[J.tail j (by omega) hj];simp[L]
  .have hex:∃i,i<n/\listed.getD i true=false:=by
    apply Classical.byContradiction;intro hno;apply M;intro i Y;cases hu:listed.getD i true with
    |true=>rfl
    |false=>exact absurd ⟨i,Y,hu⟩ hno
   obtain⟨i,⟨U,hun⟩,hmin⟩:=Vc hex;have hoi:ops[i]? =some ops[i]:=by
    have:i<ops.size:=by omega
    simp[this]
   have hir:i∈Region.ready .any ops listed:=by
    refine mem_ready.2 ⟨hun,ops[i],hoi,λe he hb=>?_⟩
    have h1:=hq.back i ops[i] e hoi he hb;have h2:=hmin e.on h1;have h3:e.on<listed.size:=by rw[J.size];omega
    cases hu:listed.getD e.on true with
    |false=>exact absurd ⟨by omega,hu⟩ h2
    |true=>simp[h3]at hu⊢;exact hu
   refine⟨λh0=>(by rw[h0]at hir;cases hir),λj hj=>?_⟩
   have hjs:j<ops.size:=by
    obtain⟨_,o,ho,_⟩:=mem_ready.1 hj;exact(Array.getElem?_eq_some_iff.1 ho).1
   rcases Nat.lt_or_ge j n with L|L
   case inr=>
    rcases htl with ht|⟨hc,hs|⟨ff,fl⟩⟩
    .omega
    .exact absurd hj (tail_waits hs hc (by omega) J _ i rfl U hun j L)
    .obtain⟨hju,oj,hoj,Z⟩:=mem_ready.1 hj
     have hjn':j=n:=by
      have h2:=aET.1 hc j (List.mem_range.2 hjs);simp only[Bool.or_eq_true,decide_eq_true_eq]at h2;rcases h2 with h2|h2
      .omega
      .by_cases he:j=n
       .exact he
       .obtain⟨o',ho',e,he',hb,hon⟩:=Region.waitsFor_spec h2
        obtain rfl:o'=oj:=Option.some.inj (ho'.symm.trans hoj);have h3:=Z e he' hb;rw[hon,getD_both (J.tail (j-1) (by omega) (by omega))]at h3
        cases h3
     subst hjn';have lst:∀k,k<j->k≠ff->listed.getD k false=true:=λk O hkf=>by
      obtain⟨o',ho',e,he',hb,hon⟩:=Region.waitsFor_spec (fl.others k O hkf);obtain rfl:o'=oj:=Option.some.inj (ho'.symm.trans hoj);have h3:=Z e he' hb;rwa [hon]at h3
     have lstT:∀k,k<j->k≠ff->listed.getD k true=true:=λk O hkf=>by
      have h1:=lst k O hkf;have h2:k<listed.size:=by rw[J.size];omega
      simp[h2]at h1⊢;exact h1
     have hif:i=ff:=by
      by_cases he:i=ff
      .exact he
      .have:=lstT i U he
       rw[hun]at this;cases this
     subst hif;obtain⟨o,y,c,d,hof,hog,hop,hod,hot⟩:=fl.it;have hfr:i∈Region.ready .any ops listed:=hir;have hinv':=J.set hfr U
     have hallL:∀k,k<j->(listed.setIfInBounds i true).getD k true=true:=λk O=>by
      by_cases W:i=k
      .subst W
       have:i<listed.size:=by rw[J.size];omega
       simp[this]
      .rw[getD_set_ne true W];exact lstT k O (Ne.symm W)
     have E:=H6 (P:=P) (h:=h) (ops:=ops) (Q:=λ_ _ _=>False) (K:=wpList P ops (QN Q) (ops.toList.drop j)) hq hm J U hfr hst hp hT (hI.at hq U hfr) (λa' w' D' T' hp' hT' htm'=>by
      rw[WQ hq hm hinv'.size hallL]at hp';exact hend0 a' w' D' T' hp' hT' λx hx=>(htm' x (hx i U)).trans (hA x hx))
     unfold wpOp at E;simp only[hof]at E;have hw:Region.wanted o (yielded ops a.tmps)=true:=by simp[Region.wanted,hog]
     rw[if_pos hw]at E;rcases E with E|⟨_,_,_,E⟩
     case inr=>exact E.elim
     have hFI:∃v,FI P ops Q i j d y c v listed a w:=by
      unfold Oper.wp at E;have hex:execOp a.eval o=(do let v<-Instr.extract (a.eval (.tmp y)) c;pure (.value v)):=by unfold execOp;rw[hop]
      rw[hex]at E
      have hlsd:∀k,k<ops.size->listed.getD k true=decide (k<j/\k≠i):=λk O=>by
       by_cases hkj:k<j
       .by_cases W:k=i
        .subst W;rw[hun];simp
        .rw[lstT k hkj W];simp[hkj,W]
       .rw[J.tail k (by omega) O];simp[hkj]
      have hevd:a.eval (.tmp y)=a.tmps.getD y undef:=rfl;cases hv:a.eval (.tmp y)with
      |tuple cs=>
       cases hcs:cs[c]? with
       |some v=>
        refine⟨v,J.size,hlsd,⟨cs,?_,hcs⟩,?_⟩
        .rw[hevd,Array.getD_eq_getD_getElem?]at hv
         cases hty:a.tmps[y]? with
         |none=>rw[hty]at hv;cases hv;simp at hcs
         |some u=>rw[hty]at hv;simp at hv;rw[hv]
        .simp only[hv,Instr.extract,hcs]at E
         have E:wpList P ops (QN Q) (ops.toList.drop j) (a.put o.dst v) w:=by simpa [Oper.upon]using E
         rw[hod]at E;exact E
       |none=>
        simp only[hv,Instr.extract,hcs]at E;simp[Oper.upon,stuck]at E
      |_=>
       simp only[hv,Instr.extract]at E;simp[Oper.upon,stuck]at E
     obtain⟨v,hFI⟩:=hFI;have hnw:Region.waitsFor .any ops j i=false:=by
      cases hwf:Region.waitsFor .any ops j i with
      |false=>rfl
      |true=>
       obtain⟨o',ho',e,he',hb,hon⟩:=Region.waitsFor_spec hwf;obtain rfl:o'=oj:=Option.some.inj (ho'.symm.trans hoj);have h3:=Z e he' hb;rw[hon,getD_both hun]at h3;cases h3
     obtain⟨g1,g2,g3,g4⟩:=hot j oj (Nat.le_refl _) hoj hnw;have hu:0<unl listed j:=Pf hun j U;exact wpOp_mono (λa1 w1 O=>Zh hq hc fl hof hog hop hod hot f (j+1) _ a1 w1 (by omega) (by omega) (by omega) O) (Lw U hjs hoj g1 g2 g3 g4 hFI)
   have hju:=(mem_ready.1 hj).1;have hcount:=Pe (by rw[J.size];exact hjs) hju n
   rw[if_pos L]at hcount;refine JB (H6 hq hm J L hj hst hp hT (hI.at hq L hj) λa' w' D' T' hp' hT' htm' hmv=>ih _ a' w' D' T' (J.set hj L) (by omega) hp' hT' (λx hx=>(htm' x (hx j L)).trans (hA x hx)) (hI.set hq hst J L hp.sz htm' hmv))
theorem PR.prom{N:Nat}{t:Nat->V}{a:Act}{w:World}{D:Nat->Prop}{T:Nat->Nat->Prop}(e:PR C N σ ρ F t a w D T){d:Nat}(Y:d<N):
  ∃ρ' F',PR C N (σ++(Go.Ve.prom (t d) σ.length).2) ρ' F' (AJ t d (Go.Ve.prom (t d) σ.length).1) a w D (λx=>if x=d then noF else T x):=by
 obtain⟨ρ',F',ok,W⟩:=IB (t d) σ ρ F _ (T d) e.wr (e.tm d Y) (e.tD d) (λi b E=>e.tF i d b E)
 refine⟨ρ',F',e.df,e.sz,λx M=>?_,ok.wr,λx M=>?_,λx b E=>?_,λi x b E O=>?_,λx y b U h1 Z=>?_,λx b E=>?_,e.fr,λi b E=>?_,e.D1,e.D2,
  λi L=>(ok.rt i (Nat.lt_of_lt_of_le L e.ml)).trans (e.rt i L),by have:=e.ml;simp;omega,λx b M E=>?_⟩
 .have:¬x=d:=by omega
  simp only[AJ,this,if_false];exact e.dd x M
 .by_cases J:x=d
  .subst J;simp only[AJ,if_true];exact W
  .simp only[AJ,J,if_false]
   exact Rel.mono (λ_ h=>h) (λv cv hv=>Am.ext ok.rt _ _ hv) _ _ _ (λ_ _=>rfl) (e.tm x M)
 .split at E
  .exact E.elim
  .exact e.tD x b E
 .split at O
  .exact O
  .rename_i J
   by_cases L:i<σ.length
   .rw[ok.old i L]at E;exact e.tF i x b E O
   .exact e.tT d x b (Ne.symm J) (ok.new i b (Nat.le_of_not_lt L) E) O
 .split at h1
  .exact h1
  .split at Z
   .exact Z
   .exact e.tT x y b U h1 Z
 .split at E
  .exact E.elim
  .exact e.tn x b E
 .by_cases L:i<σ.length
  .rw[ok.old i L]at E;exact e.Fn i b E
  .exact e.tn d b (ok.new i b (Nat.le_of_not_lt L) E)
 .split at E
  .exact E
  .exact e.tx x b M E
end
theorem PR.close{C:Ctx}:∀(ds:List (Option Nat)) (t:Nat->V) (σ:List V) (ρ:Nat->Value) (F:Nat->Nat->Prop) (T:Nat->Nat->Prop),PR C N σ ρ F t a w D T->
  (∀x b,T x b->some x∈ds)->AU C N (promA ds ⟨t,σ⟩) a w:=by
 intro ds
 induction ds with
 |nil=>
  intro t σ ρ F T E ho;refine⟨E.df,E.dd,D,ρ,F,E.wr,by simpa using E.sz,λx M=>?_,E.fr,E.Fn,E.D1,E.D2,E.rt,E.ml⟩
  have L:x<N:=by simpa using M
  have Y:=E.tm x L;have e:T x=noF:=Bb (λb Z=>by cases ho x b Z)
  rw[e]at Y;rw[AX L];exact Y
 |cons d ds O=>
  intro t σ ρ F T E ho;cases d with
  |none=>
   refine O t σ ρ F T E λx b h=>?_
   have:=ho x b h;simpa using this
  |some d=>
   unfold promA;split
   .rename_i J
    have W:d<N:=by
     rcases Nat.lt_or_ge d N with h|h
     .exact h
     .simp only[E.dd d h]at J;cases J
    obtain⟨ρ',F',U⟩:=E.prom W;refine O _ _ ρ' F' _ U λx b h=>?_
    split at h
    .exact h.elim
    grind
   .rename_i J
    refine O t σ ρ F T E λx b h=>?_
    have:=ho x b h;rcases List.mem_cons.1 this with he|he
    .cases he
     by_cases M:d<N
     .exact absurd h (AF _ _ _ (by simpa using J) (E.tm d M) b)
     .exact absurd h (E.tx d b (Nat.le_of_not_lt M))
    .exact he
end Go.Ve

