/- Regions that draw their order. -/
import Derived.Test.YteakdlfnmhlifaaVp
import Derived.StillTail
open List(range mem_cons mem_range mem_filter getElem_of_mem any_eq_true mem_singleton mem_filterMap)
open Nat(beq lt_or_ge le_refl le_of_not_lt)
open Bool(not_eq_true' or_eq_true)
open Array(getD_eq_getD_getElem?)
set_option linter.all false
namespace Go.Ve
variable{σ:List V}{op:Op}{ev ev':Operand->V}{P:Program}{K:V->Prop}
theorem Ly(h:∀x∈op.operands,ev x=ev' x)(e:Oq P σ ev op K):Oq P σ ev' op K:=by
 have E:∀ps:Array (Nat×Operand),(∀x∈(ps.toList.map (·.2)).toArray,ev x=ev' x)->(ps.toList.map λp=>(p.1,ev p.2))=ps.toList.map λp=>(p.1,ev' p.2):=by
  intro ps W;apply List.map_congr_left;intro p H;rw[W p.2 (by simp only[List.mem_toArray,List.mem_map];exact⟨p,H,rfl⟩)]
 unfold Oq at e⊢;cases op<;>simp only[Op.operands]at h<;>simp only at e⊢ <;>try exact e
 case call c=>
  obtain⟨callee,args,ats⟩:=c;have H:args.toList.map ev=args.toList.map ev':=List.map_congr_left λx O=>h x (by simp[Call.operands];right;simpa using O)
  cases callee with
  |value f=>
   have U:ev f=ev' f:=h f (by simp[Call.operands])
   cases f<;>simp only at e⊢ <;>first|exact e|(rw[<-H,<-U];exact e)|(rw[<-H];exact e)
  |invoke r m=>
   have U:ev r=ev' r:=h r (by simp[Call.operands])
   simp only at e⊢;rw[<-H,<-U];exact e
  |builtin b=>simp only at e⊢;rw[<-H];exact e
 case build t ps=>rw[<-E ps h];exact e
 case buildSlice t n ps=>rw[<-E ps h];exact e
 case slice t x J hi mx=>
  have Z:J.map ev=J.map ev':=by cases J with|none=>rfl|some y=>simp;exact h y (by simp)
  have Y:hi.map ev=hi.map ev':=by cases hi with|none=>rfl|some y=>simp;exact h y (by simp)
  rw[<-Z,<-Y,<-h x (by simp)];exact e
 case makeFunc fn first cs=>
  have H:cs.toList.map ev=cs.toList.map ev':=List.map_congr_left λx O=>h x (by simp;right;simpa using O)
  rw[<-H];exact e
 all_goals (simp at h;simp_all)
theorem Ut(e:Oq P σ ev op K):∃r,K r/\∀K':V->Prop,K' r->Oq P σ ev op K':=by
 unfold Oq at e⊢;cases op<;>simp only at e⊢ <;>try exact e.elim
 case move x=>exact⟨_,e.2,λK' E=>⟨e.1,E⟩⟩
 case assign x=>exact⟨_,e.2,λK' E=>⟨e.1,E⟩⟩
 case pick c x y=>
  unfold XW at e⊢;split at e<;>try exact e.elim
  rename_i b hb;obtain⟨H,J,U,Y⟩:=e;cases b
  .exact⟨_,Y rfl,λK' E=>⟨H,J,(λh=>by cases h),λ_=>E⟩⟩
  .exact⟨_,U rfl,λK' E=>⟨H,J,λ_=>E,(λh=>by cases h)⟩⟩
 case load t x=>
  unfold Iz at e⊢;split at e<;>try exact e.elim
  .split at e<;>try exact e.elim
   .exact⟨_,e.2,λK' E=>⟨e.1,E⟩⟩
   .exact⟨_,e.2,λK' E=>⟨e.1,E⟩⟩
   .exact⟨_,e.2,λK' E=>⟨e.1,E⟩⟩
  .split at e<;>try exact e.elim
   .exact⟨_,e.2,λK' E=>⟨e.1,E⟩⟩
   .exact⟨_,e.2.2,λK' E=>⟨e.1,e.2.1,E⟩⟩
   .exact⟨_,e.2,λK' E=>⟨e.1,E⟩⟩
 case fieldAddr t x k=>
  unfold J6 at e⊢;split at e<;>try exact e.elim
  split at e<;>try exact e.elim
  .exact⟨_,e.2,λK' E=>⟨e.1,E⟩⟩
  .exact⟨_,e.2,λK' E=>⟨e.1,E⟩⟩
  .exact⟨_,e.2,λK' E=>⟨e.1,E⟩⟩
 case indexAddr t x i=>
  unfold B5 at e⊢;split at e<;>try exact e.elim
  split at e<;>try exact e.elim
  .exact⟨_,e.2.2.2,λK' E=>⟨e.1,e.2.1,e.2.2.1,E⟩⟩
  .exact⟨_,e.2.2.2,λK' E=>⟨e.1,e.2.1,e.2.2.1,E⟩⟩
 case index t x i=>
  unfold Uv MU at e⊢;rcases e with⟨H,e⟩|⟨H,e⟩
  .split at e<;>try exact e.elim
   exact⟨_,e.2,λK' E=>.inl ⟨H,e.1,E⟩⟩
  .split at e<;>try exact e.elim
   exact⟨_,e.2.2.2,λK' E=>.inr ⟨H,e.1,e.2.1,e.2.2.1,E⟩⟩
 case nilCheck x=>
  unfold AcD at e⊢;split at e<;>try exact e.elim
  .exact⟨_,e,λK' E=>E⟩
  .exact⟨_,e,λK' E=>E⟩
  .exact⟨_,e.2,λK' E=>⟨e.1,E⟩⟩
 case binOp op t x y yt=>
  unfold VV at e⊢;split at e
  .split at e
   .rename_i h;exact⟨_,e.2,λK' E=>by first|exact⟨e.1,E⟩|(simp only[h];exact⟨e.1,E⟩)⟩
   .rename_i h;obtain⟨z,H,J,U,O⟩:=e;exact⟨z,O,λK' E=>by first|exact⟨z,H,J,U,E⟩|(simp only[h];exact⟨z,H,J,U,E⟩)⟩
  .obtain⟨z,H,J,U,O⟩:=e;exact⟨z,O,λK' E=>⟨z,H,J,U,E⟩⟩
 case unOp op t x=>
  unfold qUn at e⊢;split at e<;>try exact e.elim
  .exact⟨_,e,λK' E=>E⟩
  .exact⟨_,e,λK' E=>E⟩
 case convert s d x=>
  unfold Oz at e⊢;unfold VS at e⊢;split at e
  .exact⟨_,e,λK' E=>E⟩
  .exact⟨_,e,λK' E=>E⟩
  .split at e
   .rename_i h;exact⟨_,e,λK' E=>by first|exact E|(simp only[h];exact E)⟩
   .exact e.elim
  .obtain⟨z,H,J,O⟩:=e;exact⟨z,O,λK' E=>⟨z,H,J,E⟩⟩
 case extract x i=>
  unfold Cz at e⊢;split at e<;>try exact e.elim
  exact⟨_,e.2.2,λK' E=>⟨e.1,e.2.1,E⟩⟩
 case build t ps=>
  unfold LC at e⊢;split at e<;>try exact e.elim
  obtain⟨H,e⟩:=e;split at e<;>try exact e.elim
  rename_i h;exact⟨_,e,λK' E=>⟨H,E⟩⟩
 case buildSlice t n ps=>
  unfold B6 at e⊢;split at e<;>try exact e.elim
  obtain⟨H,J,e⟩:=e;split at e<;>try exact e.elim
  rename_i h;exact⟨_,e.2,λK' E=>⟨H,J,e.1,E⟩⟩
 case alloc t=>
  unfold OG at e⊢;split at e<;>try exact e.elim
  exact⟨_,e.2,λK' E=>⟨e.1,E⟩⟩
 case box t x=>
  obtain⟨H,J|J⟩:=e
  .exact⟨_,J.2,λK' E=>⟨H,.inl ⟨J.1,E⟩⟩⟩
  .exact⟨_,J,λK' E=>⟨H,.inr E⟩⟩
 case makeSlice t l c=>
  unfold XY at e⊢;split at e<;>try exact e.elim
  exact⟨_,e.2.2,λK' E=>⟨e.1,e.2.1,E⟩⟩
 case slice t x lo hi mx=>
  obtain⟨W,e⟩:=e;unfold Lz at e⊢;split at e<;>try exact e.elim
  all_goals
   split at e<;>try exact e.elim
   rename_i H J
  .exact⟨_,e.2,λK' E=>⟨W,e.1,E⟩⟩
  .exact⟨_,e.2.2,λK' E=>⟨W,e.1,e.2.1,E⟩⟩
  .exact⟨_,e.2.2,λK' E=>⟨W,e.1,e.2.1,E⟩⟩
 case call c=>
  obtain⟨callee,args,ats⟩:=c;simp only at e⊢;split at e
  .obtain⟨r,H,J,O⟩:=e;exact⟨r,O,λK' E=>⟨r,H,J,E⟩⟩
  .unfold OB at e⊢
   split at e
   case h_2=>exact e.elim
   obtain⟨W,r,H,J,O⟩:=e;exact⟨r,O,λK' E=>⟨W,r,H,J,E⟩⟩
  .unfold MV at e⊢
   split at e<;>try exact e.elim
   .rcases e with⟨H,e⟩|⟨H,l,J,e⟩
    case inr=>exact⟨_,e,λK' E=>.inr ⟨H,l,J,E⟩⟩
    unfold qLen at e⊢;split at e<;>first|exact e.elim|exact⟨_,e,λK' E=>.inl ⟨H,E⟩⟩
   .unfold DT at e⊢
    split at e<;>first|exact e.elim|exact⟨_,e,λK' E=>E⟩
   .unfold DT at e⊢
    split at e<;>first|exact e.elim|exact⟨_,e,λK' E=>E⟩
  .unfold OD at e⊢
   split at e
   case h_2=>exact e.elim
   obtain⟨t,fn,W,r,H,J,O⟩:=e;exact⟨r,O,λK' E=>⟨t,fn,W,r,H,J,E⟩⟩
  .exact e.elim
 case makeInterface t x=>exact⟨_,e.2,λK' E=>⟨e.1,E⟩⟩
 case makeMap t n=>exact⟨_,e.2,λK' E=>⟨e.1,E⟩⟩
 case lookup t x i co=>
  obtain⟨kt,et,l,k,z,H,J,U,Y,h5,h6,Z,O⟩:=e;exact⟨_,O,λK' E=>⟨kt,et,l,k,z,H,J,U,Y,h5,h6,Z,E⟩⟩
 case makeFunc fn first cs=>
  split at e
  case h_2=>exact e.elim
  exact⟨_,e.2,λK' E=>⟨e.1,E⟩⟩
def XU(h:∀x∈op.operands,ev x=ev' x)(e:qop P σ ev op K):qop P σ ev' op K:=Ly h e
def XT(E:qop P σ ev op K):∃r,K r/\qop P σ ev op (λr'=>r'=r):=by
 obtain⟨r0,⟨r,e,H⟩,hd⟩:=Ut E;exact⟨r,H,hd _ ⟨r,e,rfl⟩⟩
theorem Oo{K':V->Prop}(e:Oq P σ ev op K)(h:∀r,K r->K' r):Oq P σ ev op K':=by
 obtain⟨r,E,hd⟩:=Ut e
 grind
end Go.Ve


namespace Go.Ve
variable{a:Act}{ops:Array Oper}{h:Cd}{C:Ctx}{σ:List V}{N i j n x y:Nat}{B F T:Nat->Nat->Prop}{A D fp:Nat->Prop}{t:Nat->V}{ρ:Nat->Value}{o:Oper}{w:World}
def QK(h:Cd)(d:Option Nat)(t:Nat->V)(K:(Nat->V)->Prop)(r:V):Prop:=
 match d with
 |some d=>d<h.n/\K (AD t d (if h.fz.contains d then frz r else r))
 |none=>False
def K7(t:Nat->V)(d:Option Nat):Nat->V:=
 match d with
 |some d=>AD t d udV
 |none=>t
def Aai(ops:Array Oper)(y:Nat):Bool:=decide (((range ops.size).filter λj=>match ops[j]? with
 |some o=>(o.looksAt ops).contains y
 |none=>false).length<=1)
def AF(ops:Array Oper)(i:Nat):Option Nat:=(ops[i]?).bind (·.dst)
def mvB(ops:Array Oper)(o:Oper)(y:Nat):Bool:=(o.looksAt ops).contains y&&Aai ops y&&o.after.toList.any λe=>Region.binds .any e&&(match AF ops e.on with
 |some d=>beq d y
 |none=>false)
def O5(c:Nat):V->V
 |.many t n f=>.many t n λk=>if k=c then .dead else f k
 |v=>v
inductive Tk where
 |all
 |part (c:Nat)
 |put (v:V)
variable{m:Nat->List (Nat×Tk)}
def Tk.isPart:Tk->Bool
 |.part _=>true
 |_=>false
def hdV:V->V
 |.nd true true _ n _=>.nd true false 0 n λ_ _=>.dead
 |_=>.dead
theorem Rel.hd{R:V->Value->Prop}{v:V}{cv:Value}(h:Rel D w R v cv fp):Rel D w R (hdV v) cv noF:=by
 unfold hdV;split
 .rcases h with⟨Y,W,U,_⟩|⟨b,o,cap,F,J,E,e,O,_⟩
  .exact .inl ⟨Y,W,UH U,λ_ h=>h⟩
  .exact .inr ⟨b,o,cap,λ_ _=>noF,J,E,e,O,λ_ _ _ H=>absurd H (Nat.not_lt_zero _),λ_=>⟨λh=>absurd h (by simp),λ_ _ _ _ H=>absurd H (Nat.not_lt_zero _),λ_ h=>h⟩,λh=>by grind⟩
 .exact λ_ h=>h
def kapp(e:Tk)(v:V):V:=match e with
 |.all=>.dead
 |.part c=>O5 c v
 |.put u=>u
def Iq(o:Option Tk)(v:V):V:=match o with
 |some e=>kapp e v
 |none=>v
theorem Wg(a b:Nat)(v:V):O5 a (O5 b v)=O5 b (O5 a v):=by
 cases v<;>try rfl
 show V.many _ _ _=V.many _ _ _
 grind
def YB(a b:Option Tk)(v:V)(h:∀x y,a=some x->b=some y->x.isPart=true/\y.isPart=true):Iq a (Iq b v)=Iq b (Iq a v):=by
 cases a with
 |none=>rfl
 |some x=>
  cases b with
  |none=>rfl
  |some y=>
   obtain⟨E,e⟩:=h x y rfl rfl;cases x<;>first|trivial|skip
   cases y<;>first|cases e|rfl
   exact Wg _ _ _
def Bm:List (Nat×Tk)->Nat->Option Tk
 |[],_=>none
 |(y,tk)::l,x=>if y=x then some tk else Bm l x
def CN:∀{l:List (Nat×Tk)}{x:Nat}{e:Tk},Bm l x=some e->(x,e)∈l
 |[],_,_,h=>by cases h
 |(y,tk')::l,x,e,h=>by
  unfold Bm at h;split at h
  .grind
  .exact mCM _ (CN h)
def AQ(ys:List (Nat×Tk))(t:Nat->V):Nat->V:=λx=>Iq (Bm ys x) (t x)
def D8(t:Nat->V):AQ [] t=t:=rfl
def Hs(ops:Array Oper)(y:Nat):Bool:=(range ops.size).all λj=>match AF ops j with
 |some d=>!beq d y
 |none=>true
def mvR(ops:Array Oper)(o:Oper)(y:Nat):Bool:=(o.looksAt ops).contains y&&Aai ops y&&Hs ops y
def Na(ops:Array Oper)(y:Nat):List Nat:=(range ops.size).filter λj=>match ops[j]? with
 |some o=>(o.looksAt ops).contains y
 |none=>false
def Md(ops:Array Oper):List Nat->Bool
 |[]=>true
 |i::l=>(match l with
  |[]=>true
  |j::_=>Region.waitsFor .any ops j i)&&Md ops l
def mvC(ops:Array Oper)(o:Oper)(y:Nat):Bool:=(o.looksAt ops).contains y&&Hs ops y&&Md ops (Na ops y)
def HA(op:Op):List Nat:=op.operands.toList.filterMap λx=>match x with
 |.tmp y=>some y
 |_=>none
def isFn:Op->Bool
 |.call c=>match c.callee with
  |.value (.func _)=>true
  |_=>false
 |_=>false
def alM(h:Cd)(ops:Array Oper)(o:Oper):Bool:=o.guard.isNone&&(match o.op,o.dst with
 |.move (.tmp y),some z=>h.fz.contains (3000000+y)&&Hs ops y&&ops.toList.any λc=>isFn c.op&&(HA c.op).contains z
 |_,_=>false)
def alB(h:Cd)(ops:Array Oper)(o:Oper)(y:Nat):Bool:=o.after.toList.any λe=>Region.binds .any e&&(match ops[e.on]? with
 |some c=>alM h ops c&&(match c.op,c.dst with
  |.move (.tmp y'),some z=>beq y' y&&(HA o.op).contains z
  |_,_=>false)
 |none=>false)
def alU(h:Cd)(ops:Array Oper)(y:Nat):List Nat:=(range ops.size).filter λj=>match ops[j]? with
 |some o=>alB h ops o y
 |none=>false
def Vr(h:Cd)(ops:Array Oper)(o:Oper)(p:Nat×Tk):Bool:=!p.2.isPart&&alB h ops o p.1&&Hs ops p.1&&Md ops (alU h ops p.1)&&(range ops.size).all λj=>match ops[j]? with
 |some oj=>!(oj.looksAt ops).contains p.1||alM h ops oj
 |none=>true
def AlP(h:Cd)(ops:Array Oper)(o:Oper)(z y:Nat):Prop:=∃e∈o.after,Region.binds .any e=true/\∃c,ops[e.on]? =some c/\alM h ops c=true/\c.op=.move (.tmp y)/\c.dst=some z
def WS(ops:Array Oper)(i j:Nat):Prop:=j<i/\∀listed:Array Bool,(∀k ok,ops[k]? =some ok->listed.getD k false=true->∀e∈ok.after,Region.binds .any e=true->listed.getD e.on false=true)->
 (∀oi,ops[i]? =some oi->∀e∈oi.after,Region.binds .any e=true->listed.getD e.on false=true)->listed.getD j false=true
theorem WS.of(U:∀o e,ops[i]? =some o->e∈o.after->Region.binds .any e=true->e.on<i)(h:Region.waitsFor .any ops i j=true):WS ops i j:=by
 obtain⟨o,E,e,H,O,J⟩:=Region.waitsFor_spec h;exact⟨J▸U o e E H O,λlisted _ W=>J▸W o E e H O⟩
theorem WS.trans{k:Nat}(W:∃o,ops[j]? =some o)(h:WS ops i j)(J:WS ops j k):WS ops i k:=by
 refine⟨Nat.lt_trans J.1 h.1,λlisted H hi=>J.2 listed H λoj E e O U=>?_⟩
 exact H j oj E (h.2 listed H hi) e O U
theorem WS.listed{ops:Array Oper}{i j:Nat}(h:WS ops i j){listed:Array Bool}(H:∀k ok,ops[k]? =some ok->listed.getD k false=true->∀e∈ok.after,Region.binds .any e=true->listed.getD e.on false=true)(J:listed.getD i false=true):listed.getD j false=true:=
 h.2 listed H λoi E e O U=>H i oi E J e O U
theorem KM{ops:Array Oper}(J:∀j o e,ops[j]? =some o->e∈o.after->Region.binds .any e=true->e.on<j):∀{l:List Nat},Md ops l=true->(∀i∈l,∃o,ops[i]? =some o)->l.Pairwise λi j=>WS ops j i
 |[],_,_=>List.Pairwise.nil
 |i::l,h,hs=>by
  unfold Md at h;rw[bAE]at h;have H:=KM J h.2 λi hi=>hs i (mCM _ hi)
  refine List.pairwise_cons.2 ⟨λk E=>?_,H⟩
  cases l with
  |nil=>grind
  |cons j l=>
   have O:=WS.of (J j) h.1;rcases mem_cons.1 E with rfl|E
   .grind
   .exact((List.pairwise_cons.1 H).1 k E).trans (hs j (by simp)) O
theorem Ww{oi oj:Oper}(hb:∀j o e,ops[j]? =some o->e∈o.after->Region.binds .any e=true->e.on<j)(h:Md ops (Na ops y)=true)(hi:ops[i]? =some oi)(O:y∈oi.looksAt ops)(hj:ops[j]? =some oj)(J:y∈oj.looksAt ops):j=i\/WS ops i j\/WS ops j i:=by
 have E:∀k ok,ops[k]? =some ok->y∈ok.looksAt ops->k∈Na ops y:=by
  intro k ok U hyk;unfold Na
  grind
 have Z:=KM hb h λk U=>by
  have U:=mem_range.1 (mem_filter.1 U).1;exact⟨ops[k],by simp⟩
 obtain⟨a,ha,Y⟩:=getElem_of_mem (E i oi hi O);obtain⟨b,H,W⟩:=getElem_of_mem (E j oj hj J);rcases Nat.lt_trichotomy a b with hlt|heq|hlt
 .have:=List.pairwise_iff_getElem.1 Z a b ha H hlt
  rw[Y,W]at this;exact .inr (.inr this)
 .subst heq
  exact .inl (W.symm.trans Y)
 .have:=List.pairwise_iff_getElem.1 Z b a H ha hlt
  rw[Y,W]at this;exact .inr (.inl this)
theorem CK(h:Hs ops y=true):∀j,AF ops j≠some y:=by
 intro j hj;have e:j<ops.size:=by
  rcases lt_or_ge j ops.size with h|h
  .omega
  .unfold AF at hj
   grind
 have:=aET.1 h j (mem_range.2 e)
 simp_all
def exB(ops:Array Oper)(o:Oper)(y c:Nat):Bool:=(o.looksAt ops).contains y&&((range ops.size).all λj=>match ops[j]? with
 |some oj=>!(oj.looksAt ops).contains y||(oj.guard.isNone&&(match oj.op with
  |.extract (.tmp y') c'=>beq y' y&&(!beq c' c||oj.dst==o.dst)
  |_=>false))
 |none=>true)&&o.after.toList.any λe=>Region.binds .any e&&(match AF ops e.on with
 |some d=>beq d y
 |none=>false)
def JO(ops:Array Oper)(o:Oper)(p:Nat×Tk):Bool:=match p.2 with
 |.all=>mvB ops o p.1
 |.part c=>exB ops o p.1 c
 |.put _=>mvB ops o p.1||mvR ops o p.1||mvC ops o p.1
structure PR(C:Ctx)(N:Nat)(σ:List V)(ρ:Nat->Value)(F:Nat->Nat->Prop)(t:Nat->V)(a:Act)(w:World)(D:Nat->Prop)(T:Nat->Nat->Prop):Prop where
 df:a.defers=[]
 sz:a.tmps.size=N
 dd:∀x,N<=x->t x=.dead
 wr:Bg σ w D ρ F
 tm:∀x,x<N->Rel D w (Ai σ ρ w) (t x) (a.tmps.getD x undef) (T x)
 tD:∀x b,T x b->¬D b
 tF:∀i x b,F i b->¬T x b
 tT:∀x y b,x≠y->T x b->¬T y b
 tn:∀x b,T x b->C.W b\/C.w0.heap.size<=b
 fr:Fr C.w0 w C.W
 Fn:∀i b,F i b->C.W b\/C.w0.heap.size<=b
 D1:∀b,C.D0 b->D b
 D2:∀b,D b->b<C.w0.heap.size->C.D0 b\/C.W b
 rt:∀i,i<C.m->ρ i=C.ρ0 i
 ml:C.m<=σ.length
 tx:∀x b,N<=x->¬T x b
def mq(t:Nat->V)(o:Oper)(ys:List (Nat×Tk))(r:V):Prop:=
 (∃y,(o.op=.assign (.tmp y)\/o.op=.move (.tmp y))/\ys=[(y,.put (hdV r))]/\r=t y)\/
 ∃y c n f,o.op=.extract (.tmp y) c/\ys=[(y,.part c)]/\t y=.many .tu n f/\c<n/\r=f c
def I1(d:Option Nat)(r:V)(t:Nat->V):Nat->V:=match d with
 |some d=>AD t d r
 |none=>t
def V2:Op->Bool
 |.extract _ _=>false
 |_=>true
def PR.ok{C:Ctx}{N:Nat}{σ:List V}{ρ:Nat->Value}{F:Nat->Nat->Prop}{t:Nat->V}{a:Act}{w:World}{D:Nat->Prop}{T:Nat->Nat->Prop}(h:PR C N σ ρ F t a w D T):Wok w:=
 C.ok.1.same λp e=>h.fr.block p.1 (C.ok.1.lt e) (C.ok.2 p e)
def LQ(P:Program)(N:Nat)(σ:List V)(Al:Nat->Nat->Prop)(o:Oper)(t:Nat->V)(ys:List (Nat×Tk))(r:V):Prop:=
 ∀(C:Ctx) (ρ:Nat->Value) (F:Nat->Nat->Prop) (a:Act) (w:World) (D:Nat->Prop) (T:Nat->Nat->Prop) (e:Nat->V),(∀x,(x∈HA o.op\/Bm ys x≠none)->e x=t x)->(∀z y,Al z y->a.tmps.getD z undef=a.tmps.getD y undef)->PR C N σ ρ F e a w D T->
  ∀(next:Act->World->Prop) (Q:Exit->Act->World->Prop),(∀E w' D' T',PR C N σ ρ F (I1 o.dst r (AQ ys e)) E w' D' T'->(∀x b,T' x b->o.dst=some x\/∃H,T x H)->(∀x,o.dst≠some x->E.tmps[x]? =a.tmps[x]?)->next E w')->o.wp P a w next Q
def vq(P:Program)(h:Cd)(ops:Array Oper)(σ:List V):List Oper->((Nat->V)->Prop)->(Nat->V)->Prop
 |[],K,t=>K t
 |o::rest,K,t=>match o.guard with
  |none=>(alM h ops o=false/\(qop P σ (Ms.ev ⟨t,σ⟩) o.op (QK h o.dst t (vq P h ops σ rest K))\/(∃ys d r,o.dst=some d/\d<h.n/\h.fz.contains d=false/\(∀p∈ys,JO ops o p=true)/\mq t o ys r/\vq P h ops σ rest K (AD (AQ ys t) d r))\/
   ∃ys r,(∀p∈ys,JO ops o p=true\/Vr h ops o p=true)/\V2 o.op=true/\LQ P h.n σ (AlP h ops o) o t ys r/\vq P h ops σ rest K (I1 o.dst r (AQ ys t))))\/
   (alM h ops o=true/\∃d,o.dst=some d/\d<h.n/\vq P h ops σ rest K (AD t d .dead))
  |some (j,want)=>match gv t ops j with
   |.c (.bool b)=>(b=want->qop P σ (Ms.ev ⟨t,σ⟩) o.op (QK h o.dst t (vq P h ops σ rest K)))/\(b=(!want)->(∀d,o.dst=some d->d<h.n)/\vq P h ops σ rest K (K7 t o.dst))
   |v=>v=udV/\(∀d,o.dst=some d->d<h.n)/\vq P h ops σ rest K (K7 t o.dst)
def gskip(v:V)(e:Bool):Prop:=v=.c (.bool (!e))\/v=udV
def promA:List (Option Nat)->Ms->Ms
 |[],S=>S
 |none::ds,S=>promA ds S
 |some d::ds,S=>if AK (S.t d)then promA ds ⟨AD S.t d (prom (S.t d) S.σ.length).1,S.σ++(prom (S.t d) S.σ.length).2⟩else promA ds S
def Abr:Op->Bool
 |.select _ _=>false
 |_=>true
def flB(ops:Array Oper)(n f:Nat):Bool:=(range n).all (λi=>i==f||Region.waitsFor .any ops n i)&&match ops[f]? with
 |some o=>o.guard.isNone&&match o.op,o.dst with
  |.extract (.tmp y) _,some d=>(range ops.size).all λt=>decide (t<n)||Region.waitsFor .any ops t f||match ops[t]? with
   |some ot=>!(ot.looksAt ops).contains d&&ot.dst !=some d&&ot.dst !=some y&&Abr ot.op
   |none=>true
  |_,_=>false
 |none=>false
structure FL(ops:Array Oper)(n f:Nat):Prop where
 fn:f<n
 others:∀i,i<n->i≠f->Region.waitsFor .any ops n i=true
 it:∃o y c d,ops[f]? =some o/\o.guard=none/\o.op=.extract (.tmp y) c/\o.dst=some d/\∀t ot,n<=t->ops[t]? =some ot->Region.waitsFor .any ops t f=false->d∉ot.looksAt ops/\ot.dst≠some d/\ot.dst≠some y/\∀cs b,ot.op≠.select cs b
theorem AaL{f:Nat}(hf:f<n)(h:flB ops n f=true):FL ops n f:=by
 unfold flB at h;rw[bAE]at h;obtain⟨h1,E⟩:=h;refine⟨hf,λi hi Y=>?_,?_⟩
 .grind
 .split at E
  case h_2=>cases E
  rename_i o W;rw[bAE]at E;obtain⟨hg,E⟩:=E;split at E
  case h_2=>cases E
  rename_i y c d J hd;refine⟨o,y,c,d,W,by simpa using hg,J,hd,λt ot ht H U=>?_⟩
  have:=aET.1 E t (mem_range.2 (Array.getElem?_eq_some_iff.1 H).1);rw[H,U]at this;have O:¬t<n:=by omega
  simp only[O,decide_false,Bool.false_or,bAE,not_eq_true',bne_iff_ne,ne_eq]at this;obtain⟨⟨⟨g1,g2⟩,g3⟩,g4⟩:=this;refine⟨λZ=>?_,g2,g3,λcs b e=>?_⟩
  .have:(ot.looksAt ops).contains d=true:=by simpa using Z
   rw[g1]at this;cases this
  .rw[e]at g4;cases g4
def Ur(ops:Array Oper)(n:Nat):Bool:=
 decide (n<=ops.size)&&
 (range n).all (λi=>match ops[i]? with
  |none=>false
  |some oi=>match oi.dst with
   |none=>true
   |some d=>!(oi.looksAt ops).contains d&&(range n).all λj=>j==i||match ops[j]? with
    |none=>false
    |some oj=>oj.dst !=some d&&(!(oj.looksAt ops).contains d||Region.waitsFor .any ops j i))&&
 (range ops.size).all (λj=>match ops[j]? with
  |some o=>o.after.toList.all λe=>!Region.binds .any e||decide (e.on<j)
  |none=>false)
def Iy(ops:Array Oper)(n:Nat):Bool:=
 Ur ops n&&(n==ops.size||(Region.chainB .any ops n&&(Region.sinkB .any ops n||(range n).any (flB ops n))))
structure QOK(ops:Array Oper)(n:Nat):Prop where
 le:n<=ops.size
 dst:∀i,i<n->∃oi,ops[i]? =some oi/\∀d,oi.dst=some d->d∉oi.looksAt ops
 ne:∀i j d oj,i<n->j<n->i≠j->AF ops i=some d->ops[j]? =some oj->oj.dst≠some d/\(d∈oj.looksAt ops->∃e∈oj.after,Region.binds .any e=true/\e.on=i)
 back:∀j o e,ops[j]? =some o->e∈o.after->Region.binds .any e=true->e.on<j
def Vj(ops:Array Oper)(n:Nat):Prop:=n=ops.size\/(Region.chainB .any ops n=true/\(Region.sinkB .any ops n=true\/∃f,FL ops n f))
theorem J4(h:Ur ops n=true):QOK ops n:=by
 simp only[Ur,bAE,decide_eq_true_eq]at h;obtain⟨⟨h1,h2⟩,h3⟩:=h
 have hd:∀i,i<n->∃oi,ops[i]? =some oi/\∀d,oi.dst=some d->d∉oi.looksAt ops/\∀j,j<n->j≠i->∃oj,ops[j]? =some oj/\oj.dst≠some d/\(d∈oj.looksAt ops->Region.waitsFor .any ops j i=true):=by
  intro i hi;have:=aET.1 h2 i (mem_range.2 hi);split at this
  .cases this
  .rename_i oi J
   refine⟨oi,J,λd hd=>?_⟩
   rw[hd]at this
   .simp only[bAE,not_eq_true']at this
    obtain⟨ha,Y⟩:=this;refine⟨by simpa using ha,λj hj hne=>?_⟩
    have E:=aET.1 Y j (mem_range.2 hj);simp only[or_eq_true,beq_iff_eq,hne,false_or]at E;split at E
    .cases E
    .rename_i oj H
     simp only[bAE,bne_iff_ne,ne_eq,or_eq_true,not_eq_true']at E;refine⟨oj,H,E.1,λhm=>?_⟩
     rcases E.2 with h|h
     .simp at h;exact absurd hm h
     .exact h
 refine⟨h1,λi hi=>?_,λi j d oj hi hj hij hdi H=>?_,λj o e hj he Y=>?_⟩
 .obtain⟨oi,a,b⟩:=hd i hi;exact⟨oi,a,λd h=>(b d h).1⟩
 .obtain⟨oi,J,hd'⟩:=hd i hi
  have hdd:oi.dst=some d:=by simpa [AF,J]using hdi
  obtain⟨_,Z⟩:=hd' d hdd;obtain⟨O,W,g1,g2⟩:=Z j hj (Ne.symm hij);have:O=oj:=Option.some.inj (W.symm.trans H);subst this;refine⟨g1,λhm=>?_⟩
  obtain⟨oj2,U,e,he,Y,hon⟩:=Region.waitsFor_spec (g2 hm);have:oj2=O:=Option.some.inj (U.symm.trans H);subst this;exact⟨e,he,Y,hon⟩
 .have hlt:j<ops.size:=(Array.getElem?_eq_some_iff.1 hj).1
  have:=aET.1 h3 j (mem_range.2 hlt);rw[hj]at this;have:=aET.1 this e (by simpa using he)
  simp[Y]at this;exact this
theorem Om(h:Iy ops n=true):QOK ops n/\Vj ops n:=by
 simp only[Iy,bAE,or_eq_true,beq_iff_eq]at h;refine⟨J4 h.1,?_⟩;have e:=h.2;rcases e with e|⟨e,E|E⟩
 .exact .inl e
 .exact .inr ⟨e,.inl E⟩
 .obtain⟨f,H,J⟩:=any_eq_true.1 E
  exact .inr ⟨e,.inr ⟨f,AaL (mem_range.1 H) J⟩⟩
def AdS:Op->Bool
 |.fieldAddr _ _ _=>true
 |.load _ _=>true
 |.move _=>true
 |.indexAddr _ _ _=>true
 |_=>false
def flsB(ops:Array Oper)(n:Nat)(fs:List Nat):Bool:=decide (n+1<ops.size)&&Region.chainB .any ops n&&fs.all (λf=>decide (f<n)&&Region.waitsFor .any ops (n+1) f)&&
 (range n).all (λi=>fs.contains i||(range (n+1)).any λj=>decide (i<j)&& !fs.contains j&&Region.waitsFor .any ops j i)&&
 match ops[n]? with
 |some on=>on.guard.isNone&&Abr on.op&&match on.dst with
  |some dn=>fs.all λf=>match ops[f]? with
   |some o=>o.guard.isNone&&AdS o.op&&match o.dst with
    |some d=>!(on.looksAt ops).contains d&&dn !=d&& !(o.looksAt ops).contains dn
    |none=>false
   |none=>false
  |none=>false
 |none=>false
structure FLS(ops:Array Oper)(n:Nat)(fs:List Nat):Prop where
 lt1:n+1<ops.size
 chain:Region.chainB .any ops n=true
 lt:∀f∈fs,f<n/\Region.waitsFor .any ops (n+1) f=true
 others:∀i,i<n->i∉fs->∃j,i<j/\j<=n/\j∉fs/\Region.waitsFor .any ops j i=true
 it:∃on dn,ops[n]? =some on/\on.guard=none/\on.dst=some dn/\(∀cs b,on.op≠.select cs b)/\∀f∈fs,∃o d,ops[f]? =some o/\o.guard=none/\AdS o.op=true/\o.dst=some d/\d∉on.looksAt ops/\dn≠d/\dn∉o.looksAt ops
theorem YR{fs:List Nat}(h:flsB ops n fs=true):FLS ops n fs:=by
 unfold flsB at h;simp only[bAE,decide_eq_true_eq]at h;obtain⟨⟨⟨⟨h1,h2⟩,h3⟩,h4⟩,h5⟩:=h;refine⟨h1,h2,λf J=>?_,λi hi Z=>?_,?_⟩
 .have:=aET.1 h3 f J
  simpa using this
 .have:=aET.1 h4 i (mem_range.2 hi)
  rw[or_eq_true]at this;rcases this with h|h
  .exact absurd (by simpa using h) Z
  .obtain⟨j,hj,E⟩:=any_eq_true.1 h
   simp only[bAE,decide_eq_true_eq,not_eq_true']at E;have:=mem_range.1 hj;exact⟨j,E.1.1,by omega,by simpa using E.1.2,E.2⟩
 .split at h5
  case h_2=>cases h5
  rename_i on H;rw[bAE,bAE]at h5;obtain⟨⟨g1,g2⟩,h5⟩:=h5;split at h5
  case h_2=>cases h5
  rename_i dn O;refine⟨on,dn,H,by simpa using g1,O,(λcs b e=>by rw[e]at g2;cases g2),λf J=>?_⟩
  have:=aET.1 h5 f J;split at this
  case h_2=>cases this
  rename_i o Y;rw[bAE,bAE]at this;obtain⟨⟨k1,k2⟩,this⟩:=this;split at this
  case h_2=>cases this
  rename_i d hd;simp only[bAE,not_eq_true',bne_iff_ne,ne_eq]at this;obtain⟨⟨W,U⟩,m3⟩:=this;exact⟨o,d,Y,by simpa using k1,k2,hd,by simpa using W,U,by simpa using m3⟩
def Js(P:Program)(h:Cd)(ops:Array Oper)(σ:List V)(o:Oper)(t:Nat->V)(r:V)(ys:List (Nat×Tk)):Prop:=
 (alM h ops o=false/\((∃d:Nat,o.dst=some d/\
  (((d<h.n/\((o.guard=none\/∃j e,o.guard=some (j,e)/\gv t ops j=.c (.bool e))/\∃r',qop P σ (Ms.ev ⟨t,σ⟩) o.op (λx=>x=r')/\r=(if h.fz.contains d then frz r' else r'))\/
   (∃j e,o.guard=some (j,e)/\gskip (gv t ops j) e/\d<h.n/\r=udV))/\ys=[])\/
   (d<h.n/\o.guard=none/\h.fz.contains d=false/\(∀p∈ys,JO ops o p=true)/\mq t o ys r)))\/
 (o.guard=none/\(∀p∈ys,JO ops o p=true\/Vr h ops o p=true)/\V2 o.op=true/\LQ P h.n σ (AlP h ops o) o t ys r)\/
 (∃j e,o.guard=some (j,e)/\gskip (gv t ops j) e/\o.dst=none/\ys=[])))\/
 (alM h ops o=true/\∃d,o.dst=some d/\d<h.n/\r=.dead/\ys=[])
theorem Do{g:Nat×Bool}(e:o.guard=some g):alM h ops o=false:=by
 unfold alM;grind
theorem NI(E:alM h ops o=true):o.guard=none/\∃y z,o.op=.move (.tmp y)/\o.dst=some z/\∀j,AF ops j≠some y:=by
 unfold alM at E;rw[bAE]at E;refine⟨by simp_all,?_⟩
 have H:=E.2;split at H
 .rename_i y z e hd
  simp at H;exact⟨y,z,e,hd,CK H.1.2⟩
 grind
def Ce(ops:Array Oper)(r:Nat->V)(m:Nat->List (Nat×Tk))(t:Nat->V):Nat->(Nat->V)
 |0=>t
 |i+1=>I1 (AF ops i) (r i) (AQ (m i) (Ce ops r m t i))
theorem ZA{P:Program}{h:Cd}{σ:List V}{t0:Nat->V}{K:(Nat->V)->Prop}(hn:n<=ops.size)(hq:QOK ops n):∀(k i:Nat) (r:Nat->V) (m:Nat->List (Nat×Tk)),i+k=n->
  vq P h ops σ ((ops.toList.drop i).take k) K (Ce ops r m t0 i)->(∀j,j<i->∀o,ops[j]? =some o->Js P h ops σ o (Ce ops r m t0 j) (r j) (m j))->
  ∃(r':Nat->V) (W:Nat->List (Nat×Tk)),(∀j,j<n->∀o,ops[j]? =some o->Js P h ops σ o (Ce ops r' W t0 j) (r' j) (W j))/\K (Ce ops r' W t0 n):=by
 intro k
 induction k with
 |zero=>
  intro i r m hi H hs;obtain rfl:i=n:=by omega
  simp[vq]at H;exact⟨r,m,hs,H⟩
 |succ k ih=>
  intro i r m hi H hs;have U:i<ops.toList.length:=by simp;omega
  rw[List.drop_eq_getElem_cons U,List.take_succ_cons]at H;obtain⟨oi,hoi,hnl⟩:=hq.dst i (by omega)
  have hdo:AF ops i=oi.dst:=by simp[AF,hoi]
  have he:ops.toList[i]=oi:=by
   have:=hoi;rw[<-Array.getElem?_toList,gEE U]at this;exact Option.some.inj this
  rw[he]at H
  -- go on with the value v at place i
  have go:∀v ys,Js P h ops σ oi (Ce ops r m t0 i) v ys->vq P h ops σ ((ops.toList.drop (i+1)).take k) K (I1 oi.dst v (AQ ys (Ce ops r m t0 i)))->∃(r':Nat->V) (W:Nat->List (Nat×Tk)),(∀j,j<n->∀o,ops[j]? =some o->Js P h ops σ o (Ce ops r' W t0 j) (r' j) (W j))/\K (Ce ops r' W t0 n):=by
   intro v ys hst H
   have same:∀j,j<=i->Ce ops (λx=>if x=i then v else r x) (λx=>if x=i then ys else m x) t0 j=Ce ops r m t0 j:=by
    intro j
    induction j with
    |zero=>intro _;rfl
    |succ j ihj=>
     intro hj;have h1:j≠i:=by omega
     simp only[Ce,ihj (by omega),h1,if_false]
   refine ih (i+1) (λx=>if x=i then v else r x) (λx=>if x=i then ys else m x) (by omega) ?_ ?_
   .have:Ce ops (λx=>if x=i then v else r x) (λx=>if x=i then ys else m x) t0 (i+1)=I1 oi.dst v (AQ ys (Ce ops r m t0 i)):=by
     simp only[Ce,hdo,same i (le_refl _),if_true]
    rw[this];exact H
   .intro j hj o ho
    by_cases hji:j=i
    .subst hji
     have:o=oi:=Option.some.inj (ho.symm.trans hoi);subst this;rw[same j (le_refl _)];simpa using hst
    .rw[same j (by omega)]
     simp only[hji,if_false];exact hs j (by omega) o ho
  have Z:∀v d,oi.dst=some d->Js P h ops σ oi (Ce ops r m t0 i) v []->vq P h ops σ ((ops.toList.drop (i+1)).take k) K (AD (Ce ops r m t0 i) d v)->∃(r':Nat->V) (W:Nat->List (Nat×Tk)),(∀j,j<n->∀o,ops[j]? =some o->Js P h ops σ o (Ce ops r' W t0 j) (r' j) (W j))/\K (Ce ops r' W t0 n):=
   λv d hd h1 h2=>go v [] h1 (by rw[D8,hd];exact h2)
  unfold vq at H;split at H
  .rename_i O
   have dsome:∀(K:(Nat->V)->Prop) r',QK h oi.dst (Ce ops r m t0 i) K r'->∃d,oi.dst=some d:=by
    intro K r' E;unfold QK at E;split at E
    .exact⟨_,by assumption⟩
    .exact E.elim
   rcases H with⟨hna,H|⟨ys,d,v,hd,J,hfz,hmv,hmq,H⟩|⟨ys,v,hmv,hne,hlq,H⟩⟩|⟨hal,d,hd,J,H⟩
   .obtain⟨r',E,Y⟩:=XT H
    obtain⟨d,hd⟩:=dsome _ _ E;rw[hd]at E;obtain⟨J,E⟩:=E;exact Z _ d hd (.inl ⟨hna,.inl ⟨d,hd,.inl ⟨.inl ⟨J,.inl O,r',Y,rfl⟩,rfl⟩⟩⟩) E
   .exact go v ys (.inl ⟨hna,.inl ⟨d,hd,.inr ⟨J,O,hfz,hmv,hmq⟩⟩⟩) (by rw[hd];exact H)
   .exact go v ys (.inl ⟨hna,.inr (.inl ⟨O,hmv,hne,hlq⟩)⟩) H
   .exact Z .dead d hd (.inr ⟨hal,d,hd,J,rfl,rfl⟩) H
  .rename_i j e O
   split at H
   .rename_i b hb
    by_cases hbw:b=e
    .obtain⟨r',E,Y⟩:=XT (H.1 hbw)
     unfold QK at E;split at E
     case h_2=>exact E.elim
     rename_i d hd;obtain⟨J,E⟩:=E;exact Z _ d hd (.inl ⟨Do O,.inl ⟨d,hd,.inl ⟨.inl ⟨J,.inr ⟨j,e,O,by rw[hb,hbw]⟩,r',Y,rfl⟩,rfl⟩⟩⟩) E
    .have hbn:b=(!e):=by cases b<;>cases e<;>simp_all
     obtain⟨U,E⟩:=H.2 hbn;cases hd:oi.dst with
     |none=>
      rw[hd]at E;exact go .dead [] (.inl ⟨Do O,.inr (.inr ⟨j,e,O,.inl (by rw[hb,hbn]),hd,rfl⟩)⟩) (by rw[hd];exact E)
     |some d=>
      rw[hd]at E;exact Z udV d hd (.inl ⟨Do O,.inl ⟨d,hd,.inl ⟨.inr ⟨j,e,O,.inl (by rw[hb,hbn]),U d hd,rfl⟩,rfl⟩⟩⟩) E
   .obtain⟨hu,U,E⟩:=H
    cases hd:oi.dst with
    |none=>
     rw[hd]at E;exact go .dead [] (.inl ⟨Do O,.inr (.inr ⟨j,e,O,.inr hu,hd,rfl⟩)⟩) (by rw[hd];exact E)
    |some d=>
     rw[hd]at E;exact Z udV d hd (.inl ⟨Do O,.inl ⟨d,hd,.inl ⟨.inr ⟨j,e,O,.inr hu,U d hd,rfl⟩,rfl⟩⟩⟩) E
structure MOK1(A:Nat->Prop)(ops:Array Oper)(n i:Nat)(p:Nat×Tk)(oi:Oper):Prop where
 at_:ops[i]? =some oi
 na:¬A i
 looks:p.1∈oi.looksAt ops
 one:p.2.isPart=false->∀j oj,ops[j]? =some oj->p.1∈oj.looksAt ops->j=i\/WS ops i j\/WS ops j i
 nx:p.2.isPart=false->∀y c,oi.op≠.extract y c
 part:∀c,p.2=.part c->∀j oj,j<n->ops[j]? =some oj->p.1∈oj.looksAt ops->oj.guard=none/\∃c',oj.op=.extract (.tmp p.1) c'/\(j≠i->c'≠c)
 edge:(∃e∈oi.after,Region.binds .any e=true/\AF ops e.on=some p.1)\/(p.2.isPart=false/\∀j,AF ops j≠some p.1)
structure MOKA(A:Nat->Prop)(B:Nat->Nat->Prop)(ops:Array Oper)(n i:Nat)(p:Nat×Tk)(oi:Oper):Prop where
 at_:ops[i]? =some oi
 put:p.2.isPart=false
 nd:∀j,AF ops j≠some p.1
 us:B i p.1
 one:∀j,B j p.1->j=i\/WS ops i j\/WS ops j i
 look:∀j oj,ops[j]? =some oj->p.1∈oj.looksAt ops->A j
def MOK(A:Nat->Prop)(B:Nat->Nat->Prop)(ops:Array Oper)(n:Nat)(m:Nat->List (Nat×Tk)):Prop:=∀i,i<n->∀p∈m i,∃oi,MOK1 A ops n i p oi\/MOKA A B ops n i p oi
def isA(h:Cd)(ops:Array Oper)(i:Nat):Prop:=∃o,ops[i]? =some o/\alM h ops o=true
def isB(h:Cd)(ops:Array Oper)(i x:Nat):Prop:=i∈alU h ops x
theorem le_one{α:Type}{l:List α}(h:l.length<=1){a b:α}(E:a∈l)(e:b∈l):a=b:=by
 match l,h with
 |[c],_=>grind
theorem HF{ops:Array Oper}{oi:Oper}{y:Nat}(H:(oi.after.toList.any λe=>Region.binds .any e&&(match AF ops e.on with
 |some d=>beq d y
 |none=>false))=true):∃e∈oi.after,Region.binds .any e=true/\AF ops e.on=some y:=by
 obtain⟨e,J,E⟩:=any_eq_true.1 H;rw[bAE]at E;refine⟨e,by grind,E.1,?_⟩
 have:=E.2;split at this
 .simp_all
 grind
theorem Abt{P:Program}{h:Cd}{σ:List V}{t0 r:Nat->V}{m:Nat->List (Nat×Tk)}(hq:QOK ops n)
  (hst:∀j,j<n->∀o,ops[j]? =some o->Js P h ops σ o (Ce ops r m t0 j) (r j) (m j)):MOK (isA h ops) (isB h ops) ops n m:=by
 intro i hi p W;obtain⟨oi,J,_⟩:=hq.dst i hi;have hdo:AF ops i=oi.dst:=by simp[AF,J]
 have E:¬isA h ops i/\(JO ops oi p=true\/Vr h ops oi p=true)/\(p.2.isPart=false->∀y c,oi.op≠.extract y c):=by
  rcases hst i hi oi J with⟨hna,hs⟩|⟨_,_,_,_,_,he⟩
  rotate_left
  .rw[he]at W;cases W
  refine⟨fun⟨o',ho',hal⟩=>?_,?_⟩
  .obtain rfl:o'=oi:=Option.some.inj (ho'.symm.trans J)
   rw[hna]at hal;cases hal
  rcases hs with⟨_,_,⟨_,he⟩|⟨_,_,_,E,hmq⟩⟩|⟨_,E,hne,_⟩|⟨_,_,_,_,_,he⟩
  .rw[he]at W;cases W
  .refine⟨.inl (E p W),λhpt y c hop=>?_⟩
   rcases hmq with⟨z,hz,_⟩|⟨z,c',n',f,_,hys,_⟩
   .rcases hz with hz|hz<;>(rw[hop]at hz;cases hz)
   .rw[hys,mem_singleton]at W
    rw[W]at hpt;cases hpt
  .exact⟨E p W,λ_ y c hop=>by rw[hop]at hne;cases hne⟩
  .rw[he]at W;cases W
 obtain⟨hna,E,hnx⟩:=E;rcases E with E|E
 rotate_left
 .unfold Vr at E
  simp only[bAE,not_eq_true']at E;obtain⟨⟨⟨⟨Y,h2⟩,h3⟩,h4⟩,h5⟩:=E;have hin:∀j oj,ops[j]? =some oj->alB h ops oj p.1=true->j∈alU h ops p.1:=by
   intro j oj H hb;unfold alU;rw[mem_filter,mem_range];refine⟨(Array.getElem?_eq_some_iff.1 H).1,?_⟩;rw[H];exact hb
  refine⟨oi,.inr ⟨J,Y,CK h3,hin i oi J h2,λj hj=>?_,λj oj H hl=>?_⟩⟩
  .have W:=KM hq.back h4 λk hk=>by
    have hk:=mem_range.1 (mem_filter.1 hk).1;exact⟨ops[k],by simp[hk]⟩
   obtain⟨a,ha,ea⟩:=getElem_of_mem (hin i oi J h2);obtain⟨b,hb',eb⟩:=getElem_of_mem (show j∈alU h ops p.1 from hj)
   rcases Nat.lt_trichotomy a b with hlt|heq|hlt
   .have:=List.pairwise_iff_getElem.1 W a b ha hb' hlt
    rw[ea,eb]at this;exact .inr (.inr this)
   .subst heq
    exact .inl (eb.symm.trans ea)
   .have:=List.pairwise_iff_getElem.1 W b a hb' ha hlt
    rw[ea,eb]at this;exact .inr (.inl this)
  .have:=aET.1 h5 j (mem_range.2 (Array.getElem?_eq_some_iff.1 H).1)
   rw[H]at this;simp only[or_eq_true,not_eq_true']at this;rcases this with h6|h6
   .have:(oj.looksAt ops).contains p.1=true:=by simpa using hl
    rw[h6]at this;cases this
   .exact⟨oj,H,h6⟩
 obtain⟨y,tk⟩:=p
 have wholeC:mvC ops oi y=true->tk.isPart=false->∃oi,MOK1 (isA h ops) ops n i (y,tk) oi\/MOKA (isA h ops) (isB h ops) ops n i (y,tk) oi:=by
  intro E U;unfold mvC at E;rw[bAE,bAE]at E;have Y:y∈oi.looksAt ops:=by simpa using E.1.1
  exact⟨oi,.inl ⟨J,hna,Y,λ_ j oj H O=>Ww hq.back E.2 J Y H O,hnx,(λc Z=>by have Z:tk=.part c:=Z;rw[Z]at U;cases U),.inr ⟨U,CK E.1.2⟩⟩⟩
 have whole:mvB ops oi y=true\/mvR ops oi y=true->tk.isPart=false->∃oi,MOK1 (isA h ops) ops n i (y,tk) oi\/MOKA (isA h ops) (isB h ops) ops n i (y,tk) oi:=by
  intro E U
  obtain⟨Y,h2,h3⟩:(oi.looksAt ops).contains y=true/\Aai ops y=true/\((∃e∈oi.after,Region.binds .any e=true/\AF ops e.on=some y)\/(tk.isPart=false/\∀j,AF ops j≠some y)):=by
   rcases E with E|E
   .unfold mvB at E
    rw[bAE,bAE]at E;exact⟨E.1.1,E.1.2,.inl (HF E.2)⟩
   .unfold mvR at E
    rw[bAE,bAE]at E;exact⟨E.1.1,E.1.2,.inr ⟨U,CK E.2⟩⟩
  have Y:y∈oi.looksAt ops:=by simpa using Y
  refine⟨oi,.inl ⟨J,hna,Y,λ_ j oj H O=>.inl ?_,hnx,(λc Z=>by have Z:tk=.part c:=Z;rw[Z]at U;cases U),h3⟩⟩
  unfold Aai at h2;have h2:=of_decide_eq_true h2
  have hin:∀k ok,ops[k]? =some ok->y∈ok.looksAt ops->k∈(range ops.size).filter λj=>match ops[j]? with
    |some o=>(o.looksAt ops).contains y
    |none=>false:=by
   intro k ok hk hyk;rw[mem_filter,mem_range];refine⟨(Array.getElem?_eq_some_iff.1 hk).1,?_⟩;rw[hk];simpa using hyk
  exact le_one h2 (hin j oj H O) (hin i oi J Y)
 unfold JO at E;cases tk with
 |all=>exact whole (.inl E) rfl
 |put v=>
  have E:(mvB ops oi y||mvR ops oi y||mvC ops oi y)=true:=E;rw[or_eq_true,or_eq_true]at E;exact E.elim (λh=>whole h rfl) λh=>wholeC h rfl
 |part c=>
  have E:exB ops oi y c=true:=E;unfold exB at E;rw[bAE,bAE]at E;obtain⟨⟨Y,h2⟩,h3⟩:=E;have Y:y∈oi.looksAt ops:=by simpa using Y
  refine⟨oi,.inl ⟨J,hna,Y,(λZ=>by cases Z),(λZ=>by cases Z),λc0 Z j oj hj H O=>?_,.inl (HF h3)⟩⟩
  cases Z;have hown:=aET.1 h2 i (mem_range.2 (Array.getElem?_eq_some_iff.1 J).1);have:=aET.1 h2 j (mem_range.2 (Array.getElem?_eq_some_iff.1 H).1);rw[H]at this;simp only[or_eq_true,not_eq_true',bAE]at this;rcases this with h4|⟨h4,h5⟩
  .have O:y∈oj.looksAt ops:=O
   have:(oj.looksAt ops).contains y=true:=by simpa using O
   rw[h4]at this;cases this
  .refine⟨by simpa using h4,?_⟩
   split at h5
   case h_2=>cases h5
   rename_i y' c' hop;simp only[bAE,or_eq_true,not_eq_true',beq_iff_eq]at h5;obtain⟨h6,h7⟩:=h5;have h6:=bqE h6;subst h6;refine⟨c',hop,λhji hcc=>?_⟩
   rcases h7 with h7|h7
   .rw[hcc,Nat.beq_refl]at h7;cases h7
   .cases hdi:oi.dst with
    |some d=>exact(hq.ne i j d oj hi hj (Ne.symm hji) (hdo.trans hdi) H).1 (h7.trans hdi)
    |none=>
     rcases hst i hi oi J with⟨_,⟨d,hd,_⟩|⟨_,_,hne,_⟩|⟨_,_,_,_,_,he⟩⟩|⟨_,d,hd,_⟩
     .rw[hdi]at hd;cases hd
     rotate_left
     .rw[he]at W;cases W
     .rw[hdi]at hd;cases hd
     .rw[J]at hown
      simp only[or_eq_true,not_eq_true',bAE]at hown;rcases hown with h8|⟨_,h8⟩
      .have:(oi.looksAt ops).contains y'=true:=by simpa using Y
       rw[h8]at this;cases this
      .split at h8
       .rename_i hop';rw[hop']at hne;cases hne
       .cases h8
def apS(S:Nat->Bool)(m:Nat->List (Nat×Tk))(x:Nat)(v:V):Nat->V
 |0=>v
 |n+1=>if S n=true then Iq (Bm (m n) x) (apS S m x v n)else apS S m x v n
def Im{S:Nat->Bool}{m:Nat->List (Nat×Tk)}{x:Nat}{v:V}:∀n,(∀i,i<n->S i=true->Bm (m i) x=none)->apS S m x v n=v
 |0,_=>rfl
 |n+1,h=>by
  unfold apS;rw[Im n λi hi=>h i (by omega)]
  split
  .rename_i e;rw[h n (by simp) e];rfl
  rfl
def Ct{S S':Nat->Bool}{m:Nat->List (Nat×Tk)}{x:Nat}{v:V}:∀n,(∀i,i<n->S i=S' i)->apS S m x v n=apS S' m x v n
 |0,_=>rfl
 |n+1,h=>by
  unfold apS;rw[Ct n λi hi=>h i (by omega),h n (by simp)]
def KX{S S':Nat->Bool}{m:Nat->List (Nat×Tk)}{x j:Nat}{v:V}(H:S j=false)(E:S' j=true)(e:∀i,i≠j->S' i=S i):∀n,(∀i,i<n->j<i->S i=true->∀u,Iq (Bm (m i) x) (Iq (Bm (m j) x) u)=Iq (Bm (m j) x) (Iq (Bm (m i) x) u))->j<n->apS S' m x v n=Iq (Bm (m j) x) (apS S m x v n)
 |0,_,h=>by omega
 |n+1,hc,h=>by
  unfold apS;by_cases hj:j=n
  .subst hj
   rw[if_pos E,H,Ct (S':=S) j λi hi=>e i (by omega)]
   simp
  .rw[KX H E e n (λi hi=>hc i (by omega)) (by omega),e n (Ne.symm hj)]
   grind
def EqC(c:Nat)(v v':V):Prop:=v=v'\/∃e n f g,v=.many e n f/\v'=.many e n g/\f c=g c
theorem EqC.symm{c:Nat}{v v':V}(h:EqC c v v'):EqC c v' v:=by
 rcases h with rfl|⟨e,n,f,g,J,H,E⟩
 .exact .inl rfl
 .exact .inr ⟨e,n,g,f,H,J,E.symm⟩
theorem EqC.trans{c:Nat}{v v' e:V}(h:EqC c v v')(h':EqC c v' e):EqC c v e:=by
 rcases h with rfl|⟨O,n,f,g,Y,W,U⟩
 .omega
 .rcases h' with rfl|⟨Z,n',f',g',E,J,H⟩
  .exact .inr ⟨O,n,f,g,Y,W,U⟩
  .rw[W]at E
   cases E;exact .inr ⟨O,n,f,g',Y,J,U.trans H⟩
theorem EqC.kill{c c':Nat}(h:c'≠c)(v:V):EqC c v (O5 c' v):=by
 cases v<;>try exact .inl rfl
 exact .inr ⟨_,_,_,_,rfl,rfl,by grind⟩
theorem Za{S:Nat->Bool}{m:Nat->List (Nat×Tk)}{x c:Nat}{v:V}:∀n,(∀i,i<n->S i=true->∀e,Bm (m i) x=some e->∃c',e=.part c'/\c'≠c)->EqC c v (apS S m x v n)
 |0,_=>.inl rfl
 |n+1,h=>by
  have E:=Za (v:=v) n λi hi=>h i (by omega)
  unfold apS;split
  .rename_i H
   cases J:Bm (m n) x with
   |none=>trivial
   |some e=>
    obtain⟨c',rfl,O⟩:=h n (by simp) H e J
    exact E.trans (EqC.kill O _)
  grind
def CJ(ops:Array Oper)(n x:Nat):Option Nat:=(range n).find? λi=>AF ops i==some x
theorem Bk(h:CJ ops n x=some i):i<n/\AF ops i=some x:=by
 unfold CJ at h
 grind
theorem LN(h:CJ ops n x=none):∀i,i<n->AF ops i≠some x:=by
 unfold CJ at h
 grind
theorem M1(H:QOK ops n)(hi:i<n)(h:AF ops i=some x):CJ ops n x=some i:=by
 cases J:CJ ops n x with
 |none=>exact absurd h (LN J i hi)
 |some j=>
  obtain⟨hj,E⟩:=Bk J;by_cases O:j=i
  .grind
  .obtain⟨oi,e,_⟩:=H.dst i hi
   have:=(H.ne j i x oi hj hi O E e).1;simp[AF,e]at h
   grind
def Dt(O:QOK ops n)(hm:MOK A B ops n m){Y:Tk}(hi:i<n)(h:Bm (m i) x=some Y):CJ ops n x=none\/∃k,CJ ops n x=some k/\k<i/\∃oi,ops[i]? =some oi/\∃e∈oi.after,Region.binds .any e=true/\e.on=k:=by
 obtain⟨oi,E⟩:=hm i hi _ (CN h);rcases E with E|E
 rotate_left
 .left
  cases Z:CJ ops n x with
  |none=>rfl
  |some k=>exact absurd (Bk Z).2 (E.nd k)
 rcases E.edge with⟨e,U,W,hd⟩|⟨_,H⟩
 rotate_left
 .left
  cases E:CJ ops n x with
  |none=>rfl
  |some k=>exact absurd (Bk E).2 (H k)
 right;have J:=O.back i oi e E.at_ U W;exact⟨e.on,M1 O (by omega) hd,J,oi,E.at_,e,U,W,rfl⟩
theorem UI(H:MOK A B ops n m)(hi:i<n)(hj:j<n)(O:i≠j)(Y:¬WS ops i j)(J:¬WS ops j i)(u:V):Iq (Bm (m i) x) (Iq (Bm (m j) x) u)=Iq (Bm (m j) x) (Iq (Bm (m i) x) u):=by
 refine YB _ _ _ λa b W U=>?_
 obtain⟨oi,E⟩:=H i hi _ (CN W);obtain⟨oj,e⟩:=H j hj _ (CN U);rcases E with E|E
 rotate_left
 .rcases e with e|e
  .exact absurd (E.look j oj e.at_ e.looks) e.na
  .rcases E.one j e.us with h3|h3|h3<;>first|omega|exact absurd h3 Y|exact absurd h3 J
 rcases e with e|e
 rotate_left
 .exact absurd (e.look i oi E.at_ E.looks) E.na
 refine⟨?_,?_⟩
 .cases h:a.isPart with
  |true=>rfl
  |false=>rcases E.one h j oj e.at_ e.looks with h3|h3|h3<;>first|grind|rfl|rfl
 .cases h:b.isPart with
  |true=>rfl
  |false=>rcases e.one h i oi E.at_ E.looks with h3|h3|h3<;>first|grind|rfl|exact absurd h3 J
def pt(ops:Array Oper)(n:Nat)(r:Nat->V)(m:Nat->List (Nat×Tk))(t0:Nat->V)(listed:Array Bool)(x:Nat):V:=
 match CJ ops n x with
 |some k=>if listed.getD k false then apS (λi=>listed.getD i false) m x (r k) n else .dead
 |none=>apS (λi=>listed.getD i false) m x (t0 x) n
theorem HU(Y:QOK ops n)(hm:MOK A B ops n m)(r t0:Nat->V)(x:Nat):∀j,j<=n->Ce ops r m t0 j x=match CJ ops n x with
  |some k=>if k<j then apS (λi=>decide (i<j)) m x (r k) n else t0 x
  |none=>apS (λi=>decide (i<j)) m x (t0 x) n:=by
 intro j
 induction j with
 |zero=>
  intro _;cases CJ ops n x with
  |none=>exact(Im n λi _ H=>by simp at H).symm
  |some k=>simp[Ce]
 |succ j ih=>
  intro hj;obtain⟨oj,Z,_⟩:=Y.dst j (by omega)
  have hdo:AF ops j=oj.dst:=by simp[AF,Z]
  have other:AF ops j≠some x->Ce ops r m t0 (j+1) x=match CJ ops n x with
    |some k=>if k<j+1 then apS (λi=>decide (i<j+1)) m x (r k) n else t0 x
    |none=>apS (λi=>decide (i<j+1)) m x (t0 x) n:=by
   intro O
   have e:Ce ops r m t0 (j+1) x=AQ (m j) (Ce ops r m t0 j) x:=by
    show I1 (AF ops j) (r j) (AQ (m j) (Ce ops r m t0 j)) x=_;cases hd:AF ops j with
    |none=>rfl
    |some d=>
     show AD _ d _ x=_;unfold AD;rw[if_neg]
     rintro rfl
     exact O hd
   rw[e];unfold AQ;rw[ih (by omega)]
   cases J:CJ ops n x with
   |none=>
    exact(KX (by simp) (by simp) (λi hi=>by
      simp only[decide_eq_decide];omega) n (λi _ hij H=>absurd (of_decide_eq_true H) (by omega)) (by omega)).symm
   |some k=>
    have hkj:k≠j:=by
     rintro rfl
     exact O (Bk J).2
    simp only;by_cases U:k<j
    .rw[if_pos U,if_pos (by omega)]
     exact(KX (by simp) (by simp) (λi hi=>by
      simp only[decide_eq_decide];omega) n (λi _ hij H=>absurd (of_decide_eq_true H) (by omega)) (by omega)).symm
    .rw[if_neg U,if_neg (by omega)]
     cases hl:Bm (m j) x with
     |none=>rfl
     |some tk=>
      rcases Dt Y hm (by omega:j<n) hl with E|⟨k',E,hkj',_⟩
      .rw[J]at E;cases E
      .rw[J]at E;cases E;omega
  by_cases O:AF ops j=some x
  .have J:=M1 Y (by omega:j<n) O
   have e:Ce ops r m t0 (j+1) x=r j:=by
    show I1 (AF ops j) (r j) (AQ (m j) (Ce ops r m t0 j)) x=_;rw[O];show AD _ x _ x=_;unfold AD;rw[if_pos rfl]
   rw[e,J];simp only[Nat.lt_succ_self,if_true];refine(Im n λi hi H=>?_).symm
   cases hl:Bm (m i) x with
   |none=>rfl
   |some tk=>
    rcases Dt Y hm hi hl with W|⟨k,W,hki,_⟩
    .rw[J]at W;cases W
    rw[J]at W;cases W;have:=of_decide_eq_true H;omega
  .exact other O
theorem PR.ev{C:Ctx}{N:Nat}{σ:List V}{ρ:Nat->Value}{F:Nat->Nat->Prop}{t:Nat->V}{a:Act}{w:World}{D:Nat->Prop}{T:Nat->Nat->Prop}(h:PR C N σ ρ F t a w D T)(x:Operand):OpR σ w D ρ F (Ms.ev ⟨t,σ⟩ x) (a.eval x):=by
 have plain:∀v cv,Rel D w (Ai σ ρ w) v cv noF->OpR σ w D ρ F v cv:=λv cv E=>⟨noF,E,λ_ h=>h.elim,λ_ _ _ h=>h⟩
 cases x with
 |tmp y=>
  by_cases e:y<N
  .exact⟨T y,h.tm y e,h.tD y,λi b H=>h.tF i y b H⟩
  .refine plain _ _ ?_
   show Rel D w _ (t y) _ noF;rw[h.dd y (le_of_not_lt e)];exact λ_ h=>h
 |const v=>exact plain _ _ (IS v)
 |global g=>exact plain _ _ ⟨rfl,rfl,λ_ h=>h⟩
 |func f=>exact plain _ _ QE
theorem PR.gvN(h:PR C N σ ρ F t a w D T)(e:Go.Ve.gv t ops j=udV):yielded ops a.tmps j=none:=by
 unfold Go.Ve.gv at e;split at e
 .rename_i d hd
  have E:d<N:=by
   rcases lt_or_ge d N with h'|h'
   .grind
   .rw[h.dd d h']at e;cases e
  have J:=h.tm d E;rw[e]at J;obtain⟨cs,_,H,_⟩:=J;have O:d<a.tmps.size:=by rw[h.sz];omega
  have U:a.tmps[d]? =some (.tuple cs):=by
   simp[O]at H⊢
   trivial
  unfold yielded
  grind
 trivial
theorem PR.gv{C:Ctx}{N:Nat}{σ:List V}{ρ:Nat->Value}{F:Nat->Nat->Prop}{t:Nat->V}{a:Act}{w:World}{D:Nat->Prop}{T:Nat->Nat->Prop}(h:PR C N σ ρ F t a w D T){ops:Array Oper}{j:Nat}{b:Bool}(e:Go.Ve.gv t ops j=.c (.bool b)):yielded ops a.tmps j=some b:=by
 unfold Go.Ve.gv at e;split at e
 .rename_i d hd
  have E:d<N:=by
   rcases lt_or_ge d N with h'|h'
   .omega
   .rw[h.dd d h']at e;grind
  have H:=h.tm d E;rw[e]at H;have O:d<a.tmps.size:=by rw[h.sz];grind
  have J:a.tmps[d]? =some (.bool b):=by
   have:=H.1
   simp_all
  unfold yielded
  grind
 grind
theorem PR.put{C:Ctx}{N:Nat}{σ:List V}{ρ:Nat->Value}{F:Nat->Nat->Prop}{t:Nat->V}{a:Act}{w w':World}{D D':Nat->Prop}{T:Nat->Nat->Prop}(h:PR C N σ ρ F t a w D T){r:V}{v':Value}{fp:Nat->Prop}{d:Nat}(hB:Below w.heap.size w w')(hr:Rel D' w' (Ai σ ρ w') r v' fp)
  (hf:∀b,fp b->w.heap.size<=b) (Z:∀b,D b->D' b) (Y:∀b,D' b->D b\/w.heap.size<=b) (hd3:∀b,D' b->b<w'.heap.size/\¬fp b) (hdn:d<N):
  PR C N σ ρ F (AD t d r) (a.put (some d) v') w' D' (λx=>if x=d then fp else T x):=by
 have J:∀i b,F i b->b<w.heap.size:=h.wr.lt;have E:∀x b,T x b->b<w.heap.size:=by
  intro x b e;by_cases O:x<N
  .exact Rel.lt _ _ _ (h.tm x O) b e
  .exact absurd e (h.tx x b (le_of_not_lt O))
 have wr':Bg σ w' D' ρ F:=by
  have U:=h.wr.below hB;refine⟨λi hi=>Rel.mono Z (λ_ _ h=>h) _ _ _ (λ_ _=>rfl) (U.rel i hi),U.disj,λi b e hD=>?_,λb e=>(hd3 b e).1,U.out⟩
  rcases Y b hD with H|H
  .exact U.dD i b e H
  .have:=J i b e;omega
 refine⟨h.df,by rw[BL];simpa using h.sz,λx O=>?_,wr',λx O=>?_,λx b e=>?_,λi x b e hT=>?_,λx y b hxy U H=>?_,λx b e=>?_,h.fr.below hB,h.Fn,λb e=>Z b (h.D1 b e),λb e W=>?_,h.rt,h.ml,λx b O e=>?_⟩
 .have:¬x=d:=by omega
  simp only[AD,this,if_false];exact h.dd x O
 .have W:x<a.tmps.size:=by rw[h.sz];exact O
  rw[BL];by_cases he:x=d
  .subst he
   simp only[AD,if_true];simpa [W]using hr
  .simp only[AD,he,if_false]
   rw[getD_eq_getD_getElem?,Array.getElem?_setIfInBounds_ne (Ne.symm he),<-getD_eq_getD_getElem?];refine Rel.mono Z (λv cv hv=>Ai.same h.wr (λi b e=>hB.block b (J i b e)) v cv hv) _ _ _ (λb e=>hB.block b ?_) (h.tm x O)
   exact e.elim (h.wr.Dlt b) (E x b)
 .split at e
  .exact λhD=>(hd3 b hD).2 e
  .intro hD
   rcases Y b hD with H|H
   .exact h.tD x b e H
   .have:=E x b e;omega
 .split at hT
  .have:=J i b e;have:=hf b hT;omega
  .exact h.tF i x b e hT
 .split at U<;>split at H
  .omega
  .have:=hf b U;have:=E y b H;omega
  .have:=hf b H;have:=E x b U;omega
  .exact h.tT x y b hxy U H
 .split at e
  .exact .inr (Nat.le_trans h.fr.size (hf b e))
  .exact h.tn x b e
 .rcases Y b e with H|H
  .exact h.D2 b H W
  .have:=h.fr.size;omega
 .have:¬x=d:=by omega
  simp only[this,if_false]at e;exact h.tx x b O e
theorem PR.move{w':World}{D':Nat->Prop}(h:PR C N σ ρ F t a w D T){r:V}{v':Value}{d:Nat}{t1:Nat->V}{T1:Nat->Nat->Prop}(g1:∀x,x<N->Rel D w (Ai σ ρ w) (t1 x) (a.tmps.getD x undef) (T1 x))(g2:∀x b,T1 x b->T x b)(g3:∀x,N<=x->t1 x=.dead)(hB:Below w.heap.size w w')(hr:Rel D' w' (Ai σ ρ w') r v' fp)
  (hf:∀b,fp b->(∃y,T y b/\∀x,¬T1 x b)\/w.heap.size<=b) (Z:∀b,D b->D' b) (Y:∀b,D' b->D b\/w.heap.size<=b) (hd3:∀b,D' b->b<w'.heap.size/\¬fp b) (hdn:d<N):
  PR C N σ ρ F (AD t1 d r) (a.put (some d) v') w' D' (λx=>if x=d then fp else T1 x):=by
 have J:∀i b,F i b->b<w.heap.size:=h.wr.lt;have H:∀x b,T x b->b<w.heap.size:=by
  intro x b e;by_cases O:x<N
  .exact Rel.lt _ _ _ (h.tm x O) b e
  .exact absurd e (h.tx x b (le_of_not_lt O))
 have wr':Bg σ w' D' ρ F:=by
  have U:=h.wr.below hB;refine⟨λi hi=>Rel.mono Z (λ_ _ h=>h) _ _ _ (λ_ _=>rfl) (U.rel i hi),U.disj,λi b e hD=>?_,λb e=>(hd3 b e).1,U.out⟩
  rcases Y b hD with E|E
  .exact U.dD i b e E
  .have:=J i b e;omega
 refine⟨h.df,by rw[BL];simpa using h.sz,λx O=>?_,wr',λx O=>?_,λx b e=>?_,λi x b e hT=>?_,λx y b hxy U E=>?_,λx b e=>?_,h.fr.below hB,h.Fn,λb e=>Z b (h.D1 b e),λb e W=>?_,h.rt,h.ml,λx b O e=>?_⟩
 .have:¬x=d:=by omega
  simp only[AD,this,if_false];exact g3 x O
 .have W:x<a.tmps.size:=by rw[h.sz];exact O
  rw[BL];by_cases he:x=d
  .subst he
   simp only[AD,if_true];simpa [W]using hr
  .simp only[AD,he,if_false]
   rw[getD_eq_getD_getElem?,Array.getElem?_setIfInBounds_ne (Ne.symm he),<-getD_eq_getD_getElem?];refine Rel.mono Z (λv cv hv=>Ai.same h.wr (λi b e=>hB.block b (J i b e)) v cv hv) _ _ _ (λb e=>hB.block b ?_) (g1 x O)
   exact e.elim (h.wr.Dlt b) λh'=>H x b (g2 x b h')
 .split at e
  .exact λhD=>(hd3 b hD).2 e
  .intro hD
   rcases Y b hD with E|E
   .exact h.tD x b (g2 x b e) E
   .have:=H x b (g2 x b e);omega
 .split at hT
  .rcases hf b hT with⟨y,hy,_⟩|E
   .exact h.tF i y b e hy
   .have:=J i b e;omega
  .exact h.tF i x b e (g2 x b hT)
 .have one:∀x,fp b->T1 x b->False:=by
   intro x h3 h4;rcases hf b h3 with⟨z,_,h5⟩|h5
   .exact h5 x h4
   .have:=H x b (g2 x b h4);omega
  split at U<;>split at E
  .omega
  .exact one y U E
  .exact one x E U
  .exact h.tT x y b hxy (g2 x b U) (g2 y b E)
 .split at e
  .rcases hf b e with⟨y,hy,_⟩|E
   .exact h.tn y b hy
   .exact .inr (Nat.le_trans h.fr.size E)
  .exact h.tn x b (g2 x b e)
 .rcases Y b e with E|E
  .exact h.D2 b E W
  .have:=h.fr.size;omega
 .have:¬x=d:=by omega
  simp only[this,if_false]at e;exact h.tx x b O (g2 x b e)
end Go.Ve


namespace Go.Ve
variable{a:Act}{K K':Act->World->Prop}{listed:Array Bool}{Q Q0:Exit->Act->World->Prop}{N c d f i x y:Nat}{D:Nat->Prop}{o oi:Oper}{dst:Option Nat}{u v:Value}{w:World}
def Below.drew(w:World):Below w.heap.size w {w with drawn:=w.drawn+1}:=
 ⟨rfl,rfl,rfl,le_refl _,λ_ _=>rfl,Nat.le_succ _⟩
theorem BM(h:dst≠some x):(a.put dst u).tmps[x]? =a.tmps[x]?:=by
 cases dst with
 |none=>rfl
 |some e=>
  show(a.tmps.setIfInBounds e u)[x]? =_
  grind
section
def QQ(ops:Array Oper)(n:Nat)(X:Nat->Prop)(x:Nat):Prop:=(∃i,i<n/\AF ops i=some x)\/X x
variable {X A:Nat->Prop}{B:Nat->Nat->Prop}{P:Program}{C:Ctx}{h:Cd}{ops:Array Oper}{σ:List V}{ρ:Nat->Value}{F:Nat->Nat->Prop}{t0 r:Nat->V}{m:Nat->List (Nat×Tk)}{n:Nat}
theorem pt_set(hq:QOK ops n)(hm:MOK A B ops n m)(O:HeadInv .any ops n listed)(hi:i<n)(hr:i∈Region.ready .any ops listed):
  pt ops n r m t0 (listed.setIfInBounds i true)=I1 (AF ops i) (r i) (AQ (m i) (pt ops n r m t0 listed)):=by
 have hl:=O.size;have hii:i<listed.size:=by rw[hl];exact Nat.lt_of_lt_of_le hi hq.le
 obtain⟨E,o2,ho2,hall⟩:=mem_ready.1 hr;have E:=getD_both E;have eI:(listed.setIfInBounds i true).getD i false=true:=by simp[hii]
 funext x
 by_cases hx:AF ops i=some x
 .have e:I1 (AF ops i) (r i) (AQ (m i) (pt ops n r m t0 listed)) x=r i:=by
   rw[hx];show AD _ x _ x=_;unfold AD;rw[if_pos rfl]
  rw[e];have W:=M1 hq hi hx;unfold pt;rw[W];simp only;rw[if_pos eI];refine Im n λj hj Y=>?_
  cases hc:Bm (m j) x with
  |none=>rfl
  |some tk=>
   rcases Dt hq hm hj hc with Z|⟨k,Z,hkj,oj,hoj,e,he,hb,U⟩
   .rw[W]at Z;cases Z
   rw[W]at Z;cases Z;rw[getD_set_ne false (by omega)]at Y
   have:=O.closed j oj hoj Y e he hb;rw[U,E]at this;cases this
 .have e:I1 (AF ops i) (r i) (AQ (m i) (pt ops n r m t0 listed)) x=AQ (m i) (pt ops n r m t0 listed) x:=by
   cases hd:AF ops i with
   |none=>rfl
   |some d=>
    show AD _ d _ x=_;unfold AD;rw[if_neg]
    rintro rfl
    exact hx hd
  rw[e];unfold AQ pt;cases W:CJ ops n x with
  |none=>
   exact KX (S:=λi=>listed.getD i false) E eI (λj hj=>getD_set_ne false (Ne.symm hj)) n (λj hj hij Y u=>UI hm hj hi (by omega) (λh=>by have:=h.listed O.closed Y;rw[E]at this;cases this) (λh=>absurd h.1 (by omega)) u) hi
  |some k=>
   have hne:i≠k:=by
    rintro rfl
    exact hx (Bk W).2
   simp only;rw[getD_set_ne false hne];by_cases H:listed.getD k false=true
   .rw[if_pos H,if_pos H]
    exact KX (S:=λi=>listed.getD i false) E eI (λj hj=>getD_set_ne false (Ne.symm hj)) n (λj hj hij Y u=>UI hm hj hi (by omega) (λh=>by have:=h.listed O.closed Y;rw[E]at this;cases this) (λh=>absurd h.1 (by omega)) u) hi
   .rw[if_neg H,if_neg H]
    cases hc:Bm (m i) x with
    |none=>rfl
    |some tk=>
     rcases Dt hq hm hi hc with J|⟨k',J,hki,oi,hoi,e,he,hb,U⟩
     .rw[W]at J;cases J
     rw[W]at J;cases J;obtain rfl:oi=o2:=Option.some.inj (hoi.symm.trans ho2);have:=hall e he hb;rw[U]at this;exact absurd this H
theorem Hm{S S':Nat->Bool}{x:Nat}{v:V}:∀n,(∀i,i<n->Bm (m i) x≠none->S i=S' i)->apS S m x v n=apS S' m x v n
 |0,_=>rfl
 |n+1,h=>by
  unfold apS;rw[Hm n λi hi=>h i (by omega)]
  cases E:Bm (m n) x with
  |none=>
   have:∀b,(if b=true then Iq none (apS S' m x v n)else apS S' m x v n)=apS S' m x v n:=by
    intro b;cases b<;>rfl
   simp_all
  |some e=>grind
theorem Zf(hq:QOK ops n)(hm:MOK A B ops n m)(inv:HeadInv .any ops n listed)(H:ops[i]? =some oi)(hi:i<n)(hr:i∈Region.ready .any ops listed)(hna:¬A i)(hx:x∈oi.looksAt ops):
  Ce ops r m t0 i x=pt ops n r m t0 listed x\/(oi.guard=none/\∃c,oi.op=.extract (.tmp x) c/\EqC c (Ce ops r m t0 i x) (pt ops n r m t0 listed x)):=by
 rw[HU hq hm r t0 x i (Nat.le_of_lt hi)];unfold pt
 have hm1:∀j,j<n->∀O,Bm (m j) x=some O->∃oj,MOK1 A ops n j (x,O) oj:=by
  intro j hj O hl;obtain⟨oj,ok|ok⟩:=hm j hj _ (CN hl)
  .exact⟨oj,ok⟩
  .exact absurd (ok.look i oi H hx) hna
 have one:∀j,j<n->∀O,Bm (m j) x=some O->O.isPart=false->decide (j<i)=listed.getD j false:=by
  intro j hj O hl E;obtain⟨oj,ok⟩:=hm1 j hj _ hl;obtain⟨J,o2,ho2,hall⟩:=mem_ready.1 hr;have J:=getD_both J;rcases ok.one E i oi H hx with h|h|h
  .subst h
   rw[J];simp
  .have h1:=h.1
   have:listed.getD j false=false:=by
    cases hb:listed.getD j false with
    |false=>rfl
    |true=>have:=h.listed inv.closed hb;rw[J]at this;cases this
   rw[this];exact dF (by omega)
  .rw[h.2 listed inv.closed λY Z e he hb=>by
    obtain rfl:Y=o2:=Option.some.inj (Z.symm.trans ho2);exact hall e he hb]
   exact dT h.1
 cases ho:CJ ops n x with
 |none=>
  left;refine Hm n λj hj hl=>?_
  cases U:Bm (m j) x with
  |none=>exact absurd U hl
  |some O=>
   obtain⟨oj,ok⟩:=hm1 j hj _ U;rcases ok.edge with⟨e,he,hb,hd⟩|⟨E,_⟩
   .have hlt:=hq.back j oj e ok.at_ he hb
    exact absurd hd (LN ho e.on (by omega))
   .exact one j hj O U E
 |some k=>
  obtain⟨hk,hdk⟩:=Bk ho;obtain⟨Y,Z,hnl⟩:=hq.dst i hi;obtain rfl:Y=oi:=Option.some.inj (Z.symm.trans H);have hne:k≠i:=by
   rintro rfl
   have:Y.dst=some x:=by simpa [AF,H]using hdk
   exact hnl x this hx
  obtain⟨e,he,hb,hon⟩:=(hq.ne k i x Y hk hi hne hdk H).2 hx;obtain⟨J,o2,ho2,hall⟩:=mem_ready.1 hr;obtain rfl:o2=Y:=Option.some.inj (ho2.symm.trans H);have h1:=hall e he hb;rw[hon]at h1;have h2:=hq.back i o2 e H he hb;rw[hon]at h2;simp only[h1,h2,if_true];have J:=getD_both J;by_cases hex:∃j c,j<n/\Bm (m j) x=some (.part c)
  .obtain⟨j,c,hj,hl⟩:=hex
   obtain⟨oj,ok⟩:=hm1 j hj _ hl;obtain⟨hg,c',hop,_⟩:=ok.part c rfl i o2 hi H hx;right;refine⟨hg,c',hop,?_⟩
   have side:∀S:Nat->Bool,S i=false->EqC c' (r k) (apS S m x (r k) n):=by
    intro S hSi;refine Za n λj' hj' hs O hl'=>?_
    obtain⟨oj',ok'⟩:=hm1 j' hj' _ hl';cases E:O.isPart with
    |false=>
     obtain⟨_,c3,W,_⟩:=ok.part c rfl j' oj' hj' ok'.at_ ok'.looks;exact absurd W (ok'.nx E _ _)
    |true=>
     cases O<;>first|cases E|skip
     rename_i c2;obtain⟨_,c3,W,hne3⟩:=ok'.part c2 rfl i o2 hi H hx;rw[hop]at W;cases W;refine⟨c2,rfl,λe=>?_⟩
     have hij:i≠j':=by
      rintro rfl
      rw[hSi]at hs;cases hs
     exact hne3 hij e.symm
   exact(side (λj=>decide (j<i)) (by simp)).symm.trans (side (λj=>listed.getD j false) J)
  .left
   refine Hm n λj hj hl=>?_
   cases U:Bm (m j) x with
   |none=>exact absurd U hl
   |some O=>
    cases E:O.isPart with
    |true=>
     cases O<;>first|cases E|skip
     exact absurd ⟨j,_,hj,U⟩ hex
    |false=>exact one j hj O U E
theorem agreeA(hq:QOK ops n)(Y:MOK A B ops n m)(H:HeadInv .any ops n listed)(hi:i<n)(hr:i∈Region.ready .any ops listed){tk:Tk}(U:MOKA A B ops n i (x,tk) oi):
  Ce ops r m t0 i x=pt ops n r m t0 listed x:=by
 rw[HU hq Y r t0 x i (Nat.le_of_lt hi)];unfold pt;have O:CJ ops n x=none:=by
  cases hw:CJ ops n x with
  |none=>rfl
  |some k=>exact absurd (Bk hw).2 (U.nd k)
 rw[O];refine Hm n λj hj hl=>?_
 cases J:Bm (m j) x with
 |none=>exact absurd J hl
 |some tk'=>
  obtain⟨E,o2,ho2,hall⟩:=mem_ready.1 hr;have E:=getD_both E;have key:j=i\/WS ops i j\/WS ops j i:=by
   obtain⟨oj,ok|ok⟩:=Y j hj _ (CN J)
   .exact absurd (U.look j oj ok.at_ ok.looks) ok.na
   .exact U.one j ok.us
  rcases key with h|h|h
  .subst h
   rw[E];simp
  .rw[h.2 listed H.closed λoi' W e he Z=>by
    grind]
   exact dT h.1
  .have h1:=h.1
   have:listed.getD j false=false:=by
    cases Z:listed.getD j false with
    |false=>rfl
    |true=>have:=h.listed H.closed Z;rw[E]at this;cases this
   grind
theorem NJ(U:QOK ops n)(Y:MOK A B ops n m)(e:HeadInv .any ops n listed)(E:ops[i]? =some oi)(hi:i<n)(O:i∈Region.ready .any ops listed)(H:¬A i)(J:x∈oi.looksAt ops)(W:∀y c,oi.op≠.extract y c):
  Ce ops r m t0 i x=pt ops n r m t0 listed x:=by
 rcases Zf U Y e E hi O H J with h|⟨_,c,h,_⟩
 .omega
 grind
theorem Ox{v v':V}{K:V->Prop}(h:EqC c v v')(e:Cz v c K):Cz v' c K:=by
 rcases h with rfl|⟨E,n,f,g,rfl,rfl,H⟩
 .omega
 .unfold Cz at e⊢
  grind
theorem PR.skip{T:Nat->Nat->Prop}{t:Nat->V}(H:PR C N σ ρ F t a w D T)(E:d<N):
  ∃T',PR C N σ ρ F (AD t d udV) (a.put (some d) undef) w D T'/\∀x b,T' x b->T x b:=
 ⟨_,H.put (Below.refl _ _) Rel.ud (λ_ h=>h.elim) (λ_ h=>h) (λ_ h=>.inl h) (λb e=>⟨H.wr.Dlt b e,λh=>h⟩) E,λx b e=>by split at e;exact e.elim;grind⟩
theorem Ia{Q:Exit->Act->World->Prop}{K:Act->World->Prop}(hq:QOK ops n)(hm:MOK (isA h ops) (isB h ops) ops n m)(inv:HeadInv .any ops n listed)(hi:i<n)(hr:i∈Region.ready .any ops listed)
  (hst:∀j,j<n->∀o,ops[j]? =some o->Js P h ops σ o (Ce ops r m t0 j) (r j) (m j)) {D:Nat->Prop}{T:Nat->Nat->Prop}{a:Act}{w:World}
  (W:PR C h.n σ ρ F (pt ops n r m t0 listed) a w D T) (hT:∀x b,T x b->QQ ops n X x) (hal:∀oi,ops[i]? =some oi->∀z y,AlP h ops oi z y->a.tmps.getD z undef=a.tmps.getD y undef)
  (hK:∀a' w' D' T',PR C h.n σ ρ F (pt ops n r m t0 (listed.setIfInBounds i true)) a' w' D' T'->(∀x b,T' x b->QQ ops n X x)->(∀x,AF ops i≠some x->a'.tmps[x]? =a.tmps[x]?)->K a' w'):wpOp P ops Q i K a w:=by
 obtain⟨oi,Z,hnl⟩:=hq.dst i hi;have hdoi:AF ops i=oi.dst:=by simp[AF,Z]
 rw[pt_set hq hm inv hi hr,hdoi]at hK
 have hgv:∀j Y,oi.guard=some (j,Y)->gv (pt ops n r m t0 listed) ops j=gv (Ce ops r m t0 i) ops j:=by
  intro j Y hg;unfold gv;split
  .rename_i x H
   rcases Zf (r:=r) (t0:=t0) hq hm inv Z hi hr (fun⟨o',ho',ha⟩=>by
    obtain rfl:o'=oi:=Option.some.inj (ho'.symm.trans Z);rw[Do hg]at ha;cases ha) (x:=x) (by unfold Oper.looksAt;rw[hg];simp[H])with h|⟨h,_⟩
   .exact h.symm
   .rw[hg]at h;cases h
  .rfl
 unfold wpOp;simp only[Z];rcases hst i hi oi Z with⟨hna,hs⟩|⟨ha,d,hd,hdn,hri,hmi⟩
 rotate_left
 .obtain⟨hg,y,z,J,hz,_⟩:=NI ha
  have hw:Region.wanted oi (yielded ops a.tmps)=true:=by simp[Region.wanted,hg]
  rw[if_pos hw];refine .inl ?_;have hrun:(execOp a.eval oi).run P w=.ok (.value (a.eval (.tmp y))) w:=by unfold execOp;rw[J];rfl
  unfold Oper.wp;rw[hrun];show K (a.put oi.dst (a.eval (.tmp y))) w;rw[hd]at hK⊢;rw[hmi,D8,hri]at hK;refine hK _ _ _ _ (W.put (fp:=noF) (Below.refl _ _) (show Rel D w (Ai σ ρ w) .dead (a.eval (.tmp y)) noF from λ_ h=>h) (λ_ h=>h.elim) (λ_ h=>h) (λ_ h=>.inl h) (λb E=>⟨W.wr.Dlt b E,λh=>h⟩) hdn) (λx b E=>?_) λx H=>BM H
  split at E
  .exact E.elim
  .exact hT x b E
 have hnA:¬isA h ops i:=fun⟨o',ho',ha⟩=>by
  obtain rfl:o'=oi:=Option.some.inj (ho'.symm.trans Z);rw[hna]at ha;cases ha
 rcases hs with⟨d,hd,hs⟩|⟨hg,hmv,hne,hlq⟩|⟨j,Y,hg,hgj,hdn,hmi⟩
 rotate_left
 .have hw:Region.wanted oi (yielded ops a.tmps)=true:=by simp[Region.wanted,hg]
  rw[if_pos hw];refine .inl (hlq C ρ F a w D T (pt ops n r m t0 listed) (λx H=>?_) (hal oi Z) W K Q λa' w' D' T' hp' hT' htm=>hK a' w' D' T' hp' (λx b E=>?_) htm)
  .have hnx:∀y c,oi.op≠.extract y c:=λy c e=>by rw[e]at hne;cases hne
   rcases H with H|H
   rotate_left
   .cases hl:Bm (m i) x with
    |none=>exact absurd hl H
    |some tk=>
     obtain⟨oi',ok|ok⟩:=hm i hi _ (CN hl)
     .obtain rfl:oi'=oi:=Option.some.inj (ok.at_.symm.trans Z)
      exact(NJ hq hm inv Z hi hr hnA ok.looks hnx).symm
     .exact(agreeA hq hm inv hi hr ok).symm
   refine(NJ hq hm inv Z hi hr hnA ?_ hnx).symm;unfold HA at H;obtain⟨u,hu,he⟩:=mem_filterMap.1 H;cases u with
   |tmp y=>
    cases he;unfold Oper.looksAt;refine List.mem_append_left _ ?_;rw[mem_filterMap];exact⟨.tmp x,by simpa using hu,rfl⟩
   |const v=>cases he
   |global g=>cases he
   |func f=>cases he
  .rcases hT' x b E with h|⟨b',h⟩
   .exact .inl ⟨i,hi,hdoi.trans h⟩
   .exact hT x b' h
 .have U:=hgj
  rw[<-hgv j Y hg]at U
  have hw:Region.wanted oi (yielded ops a.tmps)=false:=by
   rcases U with U|U
   .have:=W.gv U
    cases Y<;>simp[Region.wanted,hg,this]
   .simp[Region.wanted,hg,W.gvN U]
  rw[if_neg (by simp[hw]),hdn]
  rw[hdn,hmi,D8]at hK;exact hK _ _ _ _ W hT λ_ _=>rfl
 have hdo:AF ops i=some d:=hdoi.trans hd;have htm:∀(v:Value) x,some d≠some x->(a.put (some d) v).tmps[x]? =a.tmps[x]?:=λv x H=>BM H
 have hT':∀(fp:Nat->Prop) x b,(if x=d then fp else T x) b->QQ ops n X x:=by
  intro fp x b E;split at E
  .rename_i H;subst H;exact .inl ⟨i,hi,hdo⟩
  .exact hT x b E
 rw[hd]at hK;rcases hs with⟨⟨hdn,hg,r',hqop,hri⟩|⟨j,Y,hg,hgj,hdn,hri⟩,hmi⟩|⟨hdn,hg,hfz,hmv,hmq⟩
 .rw[hmi,D8]at hK
  have hw:Region.wanted oi (yielded ops a.tmps)=true:=by
   rcases hg with hg|⟨j,Y,hg,hgj⟩
   .simp[Region.wanted,hg]
   .rw[<-hgv j Y hg]at hgj
    simp[Region.wanted,hg,W.gv hgj]
  rw[if_pos hw];refine .inl ?_;have look:∀y,Operand.tmp y∈oi.op.operands->y∈oi.looksAt ops:=by
   intro y H;unfold Oper.looksAt;refine List.mem_append_left _ ?_;rw[mem_filterMap];exact⟨.tmp y,by simpa using H,rfl⟩
  have hqop':qop P σ (Ms.ev ⟨pt ops n r m t0 listed,σ⟩) oi.op (λx=>x=r'):=by
   by_cases hex:∃y c,oi.op=.extract (.tmp y) c
   .obtain⟨y,c,J⟩:=hex
    have hE:EqC c (Ce ops r m t0 i y) (pt ops n r m t0 listed y):=by
     rcases Zf (r:=r) (t0:=t0) hq hm inv Z hi hr hnA (x:=y) (look y (by rw[J];simp[Op.operands]))with h|⟨_,c',h,h'⟩
     .exact .inl h
     .rw[J]at h;cases h;exact h'
    rw[J]at hqop⊢;exact Ox (K:=λr0=>∃r,Sub r0 r/\r=r') hE hqop
   .refine XU (λx H=>?_) hqop
    cases x with
    |tmp y=>
     show Ce ops r m t0 i y=pt ops n r m t0 listed y;rcases Zf (r:=r) (t0:=t0) hq hm inv Z hi hr hnA (look y H)with h|⟨_,c,h,_⟩
     .exact h
     .exact absurd ⟨y,c,h⟩ hex
    |const v=>rfl
    |global g=>rfl
    |func f=>rfl
  obtain⟨r2,rfl,hy⟩:=On (o:=oi) W.ok W.wr (λx _=>W.ev x) hqop'
  refine hy K Q λv' w' D' fp hB hr' hf hd1 hd2 hd3=>?_
  rw[hd];rw[hri]at hK;split at hK
  .refine hK _ _ _ _ (W.put (D':=λb=>D' b\/fp b) (fp:=noF) hB (Rel.frz _ _ _ hr') (λ_ h=>h.elim) (λb E=>.inl (hd1 b E)) (λb E=>?_) (λb E=>⟨?_,λh=>h⟩) hdn) (hT' _) (htm _)
   .rcases E with E|E
    .exact hd2 b E
    .exact .inr (hf b E)
   .rcases E with E|E
    .exact(hd3 b E).1
    .exact Rel.lt _ _ _ hr' b E
  .exact hK _ _ _ _ (W.put hB hr' hf hd1 hd2 hd3 hdn) (hT' _) (htm _)
 .rw[hmi,D8]at hK
  have U:=hgj;rw[<-hgv j Y hg]at U
  have hw:Region.wanted oi (yielded ops a.tmps)=false:=by
   rcases U with U|U
   .have:=W.gv U
    cases Y<;>simp[Region.wanted,hg,this]
   .simp[Region.wanted,hg,W.gvN U]
  rw[if_neg (by simp[hw]),hd]
  rw[hri]at hK;obtain⟨T',hp',hsub⟩:=W.skip hdn;exact hK _ _ _ _ hp' (λx b E=>hT x b (hsub x b E)) (htm _)
 .have hw:Region.wanted oi (yielded ops a.tmps)=true:=by simp[Region.wanted,hg]
  rw[if_pos hw];refine .inl ?_;have hlook:∀p∈m i,p.1∈oi.looksAt ops:=by
   intro p W;have look:∀y,Operand.tmp y∈oi.op.operands->y∈oi.looksAt ops:=by
    intro y H;unfold Oper.looksAt;refine List.mem_append_left _ ?_;rw[mem_filterMap];exact⟨.tmp y,by simpa using H,rfl⟩
   rcases hmq with⟨y,J,hys,_⟩|⟨y,c,nn,f,J,hys,_⟩
   .rw[hys,mem_singleton]at W
    rw[W];exact look y (by rcases J with J|J<;>(rw[J];simp[Op.operands]))
   .rw[hys,mem_singleton]at W
    rw[W];exact look y (by rw[J];simp[Op.operands])
  rcases hmq with⟨y,J,hys,hri⟩|⟨y,c,nn,f,J,hys,hty,hcn,hri⟩
  .rw[hys]at hK hlook
   rw[NJ hq hm inv Z hi hr hnA (hlook (y,.put (hdV (r i))) (by simp)) (by rintro z c h;rcases J with J|J<;>(rw[J]at h;cases h))]at hri
   have hrun:(execOp a.eval oi).run P w=.ok (.value (a.eval (.tmp y))) w:=by unfold execOp;rcases J with J|J<;>(rw[J];rfl)
   unfold Oper.wp;rw[hrun];show K (a.put oi.dst (a.eval (.tmp y))) w;rw[hd]
   obtain⟨fp,hrel,hfp⟩:∃fp,Rel D w (Ai σ ρ w) (r i) (a.eval (.tmp y)) fp/\∀b,fp b->T y b:=by
    rw[hri];by_cases hy:y<h.n
    .exact⟨T y,W.tm y hy,λ_ h=>h⟩
    .exact⟨noF,by rw[W.dd y (le_of_not_lt hy)];exact λ_ h=>h,λ_ h=>h.elim⟩
   have kM:∀x,AQ [(y,.put (hdV (r i)))] (pt ops n r m t0 listed) x=if x=y then hdV (r i)else pt ops n r m t0 listed x:=by
    intro x;unfold AQ;by_cases H:x=y
    .subst H
     rw[if_pos rfl];show Iq (if x=x then some (.put (hdV (r i)))else none) _=_
     rw[if_pos rfl];rfl
    .rw[if_neg H]
     show Iq (if y=x then some (.put (hdV (r i)))else none) _=_
     rw[if_neg (Ne.symm H)];rfl
   refine hK _ _ _ _ (W.move (t1:=AQ [(y,.put (hdV (r i)))] (pt ops n r m t0 listed)) (T1:=λx=>if x=y then noF else T x) (λx H=>?_) (λx b E=>?_) (λx H=>?_) (Below.refl _ _) hrel (λb E=>.inl ⟨y,hfp b E,λx H=>?_⟩) (λ_ h=>h) (λ_ h=>.inl h) (λb E=>⟨W.wr.Dlt b E,λh=>W.tD y b (hfp b h) E⟩) hdn) (λx b E=>?_) (htm _)
   .rw[kM]
    by_cases O:x=y
    .rw[if_pos O,if_pos O,O];exact hrel.hd
    .rw[if_neg O,if_neg O];exact W.tm x H
   .split at E
    .exact E.elim
    .exact E
   .rw[kM]
    split
    .rename_i O
     rw[hri,<-O,W.dd x H];rfl
    .exact W.dd x H
   .split at H
    .exact H.elim
    .rename_i O;exact W.tT x y b O H (hfp b E)
   .split at E
    .rename_i H;subst H;exact .inl ⟨i,hi,hdo⟩
    .split at E
     .exact E.elim
     .exact hT x b E
  .rw[hys]at hK hlook
   -- the part, and what is left
   obtain⟨g,hg',hgc⟩:∃g,pt ops n r m t0 listed y=.many .tu nn g/\g c=f c:=by
    rcases Zf (r:=r) (t0:=t0) hq hm inv Z hi hr hnA (hlook (y,.part c) (by simp))with h|⟨_,c',h,h'⟩
    .exact⟨f,h▸hty,rfl⟩
    .rw[J]at h
     cases h;rcases h' with h'|⟨tg,n2,f2,g2,h1,h2,h3⟩
     .exact⟨f,h'▸hty,rfl⟩
     .rw[hty]at h1
      cases h1;exact⟨g2,h2,h3.symm⟩
   have hyn:y<h.n:=by
    rcases lt_or_ge y h.n with h'|h'
    .exact h'
    .rw[W.dd y h']at hg';cases hg'
   have hry:=W.tm y hyn;rw[hg']at hry;obtain⟨cs,G,hcv,hcs,hrel,hdis,hfp⟩:=hry;have hcv:a.eval (.tmp y)=.tuple cs:=hcv
   have hrun:(execOp a.eval oi).run P w=.ok (.value (cs.getD c undef)) w:=by
    unfold execOp;rw[J];simp[Instr.extract,hcv,hcs,hcn]
   unfold Oper.wp;rw[hrun];show K (a.put oi.dst (cs.getD c undef)) w;rw[hd];have hrc:Rel D w (Ai σ ρ w) (r i) (cs.getD c undef) (G c):=by rw[hri,<-hgc];exact hrel c hcn
   have kM:∀x,AQ [(y,.part c)] (pt ops n r m t0 listed) x=if x=y then O5 c (.many .tu nn g)else pt ops n r m t0 listed x:=by
    intro x;unfold AQ;by_cases H:x=y
    .subst H
     rw[if_pos rfl];show Iq (if x=x then some (.part c)else none) _=_
     rw[if_pos rfl,hg'];rfl
    .rw[if_neg H]
     show Iq (if y=x then some (.part c)else none) _=_
     rw[if_neg (Ne.symm H)];rfl
   refine hK _ _ _ _ (W.move (t1:=AQ [(y,.part c)] (pt ops n r m t0 listed)) (T1:=λx=>if x=y then λb=>∃k,k<nn/\k≠c/\G k b else T x) (λx H=>?_) (λx b E=>?_) (λx H=>?_) (Below.refl _ _) hrc (λb E=>.inl ⟨y,(hfp b).2 ⟨c,hcn,E⟩,λx H=>?_⟩) (λ_ h=>h) (λ_ h=>.inl h) (λb E=>⟨W.wr.Dlt b E,λh=>W.tD y b ((hfp b).2 ⟨c,hcn,h⟩) E⟩) hdn) (λx b E=>?_) (htm _)
   .rw[kM]
    by_cases O:x=y
    .rw[if_pos O,if_pos O]
     subst O;refine⟨cs,λk=>if k=c then noF else G k,hcv,hcs,λk hk=>?_,λk k' b hk hk' hne h1 h2=>?_,λb=>⟨fun⟨k,h1,h2,h3⟩=>⟨k,h1,by show(if k=c then noF else G k) b;rw[if_neg h2];exact h3⟩,fun⟨k,h1,h2⟩=>?_⟩⟩
     .show Rel D w _ (if k=c then .dead else g k) _ (if k=c then noF else G k)
      by_cases hkc:k=c
      .rw[if_pos hkc,if_pos hkc];exact λ_ h=>h
      .rw[if_neg hkc,if_neg hkc];exact hrel k hk
     .have h1:(if k=c then noF else G k) b:=h1
      have h2:(if k'=c then noF else G k') b:=h2
      split at h1
      .exact h1
      .split at h2
       .exact h2
       .exact hdis k k' b hk hk' hne h1 h2
     .have h2:(if k=c then noF else G k) b:=h2
      split at h2
      .exact h2.elim
      .rename_i hkc;exact⟨k,h1,hkc,h2⟩
    .rw[if_neg O,if_neg O];exact W.tm x H
   .split at E
    .rename_i O
     subst O;obtain⟨k,h1,_,h3⟩:=E;exact(hfp b).2 ⟨k,h1,h3⟩
    .exact E
   .rw[kM]
    have:x≠y:=λe=>absurd hyn (Nat.not_lt.2 (e▸H))
    rw[if_neg this];exact W.dd x H
   .split at H
    .obtain⟨k,h1,h2,h3⟩:=H
     exact hdis k c b h1 hcn h2 h3 E
    .rename_i O;exact W.tT x y b O H ((hfp b).2 ⟨c,hcn,E⟩)
   .split at E
    .rename_i H;subst H;exact .inl ⟨i,hi,hdo⟩
    .split at E
     .rename_i O
      subst O;obtain⟨k,h1,_,h3⟩:=E;exact hT x b ((hfp b).2 ⟨k,h1,h3⟩)
     .exact hT x b E
theorem JP{Q:Exit->Act->World->Prop}(hq:QOK ops n)(htl:n=ops.size\/Region.chainB .any ops n=true):∀(H m:Nat) (listed:Array Bool) (a:Act) (w:World),n<=m->m<=ops.size->ops.size<=m+H->listed.size=ops.size->
  (∀j,j<ops.size->listed.getD j true=decide (j<m))->wpList P ops Q (ops.toList.drop m) a w->wpAny P .any ops Q H listed a w:=by
 have U:∀{listed:Array Bool}{j m:Nat},listed.size=ops.size->(∀j,j<ops.size->listed.getD j true=decide (j<m))->j<ops.size->listed.getD j false=decide (j<m):=by
  intro listed j m Y J hj;have:=J j hj;rw[<-Y]at hj;simp[hj]at this⊢;exact this
 intro H
 induction H with
 |zero=>
  intro m listed a w hnm hm hf Y J W;obtain rfl:m=ops.size:=by omega
  refine⟨?_,?_⟩
  .cases hr:Region.ready .any ops listed with
   |nil=>rfl
   |cons j js=>
    have hj:j∈Region.ready .any ops listed:=by rw[hr];simp
    obtain⟨O,o,ho,_⟩:=mem_ready.1 hj;have E:j<ops.size:=(Array.getElem?_eq_some_iff.1 ho).1;rw[J j E]at O;simp[E]at O
  .have:ops.toList.drop ops.size=[]:=by simp
   rw[this]at W;exact W
 |succ f ih=>
  intro m listed a w hnm hm hf Y J W;by_cases hms:m=ops.size
  .subst hms
   have hnil:Region.ready .any ops listed=[]:=by
    cases hr:Region.ready .any ops listed with
    |nil=>rfl
    |cons j js=>
     have hj:j∈Region.ready .any ops listed:=by rw[hr];simp
     obtain⟨O,o,ho,_⟩:=mem_ready.1 hj;have E:j<ops.size:=(Array.getElem?_eq_some_iff.1 ho).1;rw[J j E]at O;simp[E]at O
   refine⟨λ_=>?_,λi hi=>by rw[hnil]at hi;cases hi⟩
   have:ops.toList.drop ops.size=[]:=by simp
   rw[this]at W;exact W
  .have E:m<ops.size:=by omega
   have Z:ops[m]? =some ops[m]:=by simp[E]
   have hmr:m∈Region.ready .any ops listed:=by
    refine mem_ready.2 ⟨by rw[J m E];simp,ops[m],Z,λe he hb=>?_⟩
    have O:=hq.back m ops[m] e Z he hb;rw[U Y J (by omega)]
    simp[O]
   refine⟨λh0=>(by rw[h0]at hmr;cases hmr),λi hi=>?_⟩
   have him:i=m:=by
    obtain⟨O,o,ho,hall⟩:=mem_ready.1 hi;have hil:i<ops.size:=(Array.getElem?_eq_some_iff.1 ho).1;rw[J i hil]at O;simp at O;by_cases he:i=m
    .exact he
    .rcases htl with ht|hc
     .omega
     .have h2:=aET.1 hc i (mem_range.2 hil)
      simp only[or_eq_true,decide_eq_true_eq]at h2;rcases h2 with h2|h2
      .omega
      .obtain⟨o',ho',e,he',hb,hon⟩:=Region.waitsFor_spec h2
       obtain rfl:o'=o:=Option.some.inj (ho'.symm.trans ho);have h3:=hall e he' hb;rw[hon,U Y J (by omega)]at h3
       simp at h3;omega
   subst him
   have hdrop:ops.toList.drop i=ops[i]::ops.toList.drop (i+1):=by
    have:=List.drop_eq_getElem_cons (l:=ops.toList) (i:=i) (by simpa using E)
    simpa using this
   rw[hdrop]at W
   have hw':wpOp P ops Q i (wpList P ops Q (ops.toList.drop (i+1))) a w:=by
    unfold wpOp;simp only[Z];exact W
   refine wpOp_mono (λa' w' h'=>ih (i+1) _ a' w' (by omega) (by omega) (by omega) (by simpa using Y) (λj hj=>?_) h') hw'
   by_cases hij:i=j
   .subst hij
    have:i<listed.size:=by rw[Y];exact E
    simp[this]
   .rw[getD_set_ne true hij,J j hj]
    have:(j<i)=(j<i+1):=by
     apply propext;constructor<;>intro _<;>omega
    simp[this]
def unl(listed:Array Bool)(n:Nat):Nat:=(range n).countP λi=>!listed.getD i true
theorem PJ(hi:i<listed.size)(H:listed.getD i true=false):∀n,unl (listed.setIfInBounds i true) n+(if i<n then 1 else 0)=unl listed n:=by
 intro n
 induction n with
 |zero=>rfl
 |succ n E=>
  unfold unl at E⊢;rw[List.range_succ,List.countP_append];simp only[List.countP_singleton];by_cases e:i=n
  .simp_all
  .rw[getD_set_ne true e]
   grind
theorem PK(e:listed.getD i true=false):∀n,i<n->0<unl listed n:=by
 intro n E;unfold unl;rw[List.countP_pos_iff]
 grind
theorem Ds(h:dst≠some d):(a.put (some d) v).put dst u=(a.put dst u).put (some d) v:=by
 cases dst with
 |none=>rfl
 |some e=>
  have E:d≠e:=λH=>h (by grind)
  unfold Act.put;simp;rw[Array.setIfInBounds_comm _ _ E]
theorem Vl{Q:Exit->Act->World->Prop}{K' K:Act->World->Prop}{d:Nat}{v:Value}(ho:ops[i]? =some o)(U:∀e a w,e≠.normal->¬Q0 e a w)(hs:∀cs b,o.op≠.select cs b)
  (hl:d∉o.looksAt ops) (hd:o.dst≠some d) (O:∀a1 Z,(∀x,o.dst≠some x->a1.tmps[x]? =a.tmps[x]?)->K' (a1.put (some d) v) Z->K a1 Z)
  (h:wpOp P ops Q0 i K' (a.put (some d) v) w):wpOp P ops Q i K a w:=by
 unfold wpOp at h⊢;simp only[ho]at h⊢;rw[wanted_put o a (some d) v (λd' J=>by cases J;exact hl)]at h
 split
 .rename_i Y
  rw[if_pos Y]at h;rcases h with h|⟨_,_,_,h⟩
  .left
   unfold Oper.wp at h⊢;rw[execOp_put (ops:=ops) o hs a (some d) v (λd' J=>by cases J;exact hl)]at h
   generalize (execOp a.eval o).run P w=r at h⊢;cases r with
   |ok n w'=>
    cases n with
    |value u=>exact O _ _ (λx E=>BM E) (Ds hd▸h)
    |skip=>exact O _ _ (λx E=>BM E) (Ds hd▸h)
    |defer u=>exact O ({a with defers:=u::a.defers}.put o.dst undef) w' (λx E=>BM (a:={a with defers:=u::a.defers}) E) (Ds hd▸h)
    |enter f args=>exact Calls.mono h (λe W H=>by
      cases e with
      |returned u=>exact O _ _ (λx E=>BM E) (Ds hd▸H)
      |panicked c=>exact(U _ _ _ (by simp) H).elim
      |outgrown=>obtain⟨_,_,H⟩:=H;exact(U _ _ _ (by simp) H).elim)
    |row r args=>exact Rows.mono h (λu W H=>O _ _ (λx E=>BM E) (Ds hd▸H))
    |_=>exact h
   |halt x w'=>
    cases x<;>first|exact h.elim|exact(U _ _ _ (by simp) h).elim
  .exact(U _ _ _ (by simp) h).elim
 .rename_i Y
  rw[if_neg Y]at h;exact O _ _ (λx E=>BM E) (Ds hd▸h)
def QN(Q:Exit->Act->World->Prop):Exit->Act->World->Prop:=λe a w=>e=.normal/\Q .normal a w
theorem AdE:∀e a w,e≠.normal->¬QN Q e a w:=λ_ _ _ h E=>h E.1
theorem WO{Q:Exit->Act->World->Prop}{i:Nat}(W:∀e a w,e≠.normal->¬Q0 e a w)(H:∀a1 O,K' a1 O->K a1 O)
  (h:wpOp P ops Q0 i K' a w):wpOp P ops Q i K a w:=by
 unfold wpOp at h⊢;split
 .grind
 rename_i o Y;simp only[Y]at h;split
 .rename_i U
  rw[if_pos U]at h;rcases h with h|⟨_,_,_,h⟩
  .left
   unfold Oper.wp at h⊢;generalize (execOp a.eval o).run P w=r at h⊢;cases r with
   |ok n w'=>
    cases n with
    |value u=>exact H _ _ h
    |skip=>exact H _ _ h
    |defer u=>exact H _ _ h
    |enter f args=>exact Calls.mono h (λe J E=>by
      cases e with
      |returned u=>exact H _ _ E
      |panicked c=>grind
      |outgrown=>obtain⟨_,_,E⟩:=E;grind)
    |row r args=>exact Rows.mono h (λu J E=>H _ _ E)
    |_=>exact h
   |halt x w'=>
    cases x<;>first|exact h.elim|exact(W _ _ _ (by simp) h).elim
  grind
 grind
theorem JI:∀(m:Nat) (a:Act) (w:World),ops.size-m<=ops.size->wpList P ops (QN Q) (ops.toList.drop m) a w->wpList P ops Q (ops.toList.drop m) a w:=by
 intro m
 induction hk:ops.size-m generalizing m with
 |zero=>
  intro a w _ h;have e:ops.toList.drop m=[]:=List.drop_eq_nil_of_le (by simp;omega)
  rw[e]at h⊢;exact h.2
 |succ k O=>
  intro a w _ h;have H:m<ops.size:=by omega
  have E:=by
   have:=List.drop_eq_getElem_cons (l:=ops.toList) (i:=m) (by grind)
   omega
  rw[E]at h⊢
  have W:wpOp P ops (QN Q) m (wpList P ops (QN Q) (ops.toList.drop (m+1))) a w:=by
   unfold wpOp;simp only[show ops[m]? =some ops[m] by simp];exact h
  have:=WO (Q:=Q) AdE (λa1 J U=>O (m+1) (by omega) a1 J (by omega) U) W
  unfold wpOp at this;simp only[show ops[m]? =some ops[m] by simp[H]]at this
  exact this
structure FI(P:Program)(ops:Array Oper)(Q:Exit->Act->World->Prop)(f m:Nat)(d y c:Nat)(v:Value)(listed:Array Bool)(a:Act)(w:World):Prop where
 sz:listed.size=ops.size
 ls:∀j,j<ops.size->listed.getD j true=decide (j<m/\j≠f)
 pu:∃cs,a.tmps[y]? =some (.tuple cs)/\cs[c]? =some v
 wl:wpList P ops (QN Q) (ops.toList.drop m) (a.put (some d) v) w
theorem Jz{j:Nat}{p:Prop} [Decidable p](e:listed.size=ops.size)(hj:j<ops.size)(h:listed.getD j true=decide p):listed.getD j false=decide p:=by grind
theorem LZ{Q:Exit->Act->World->Prop}{m c:Nat}{v:Value}(hfm:f<m)(Y:m<ops.size){listed:Array Bool}{a:Act}{w:World}{ot:Oper}(E:ops[m]? =some ot)(h1:d∉ot.looksAt ops)(h2:ot.dst≠some d)(h3:ot.dst≠some y)(h4:∀cs b,ot.op≠.select cs b)
  (h:FI P ops Q f m d y c v listed a w):wpOp P ops Q m (FI P ops Q f (m+1) d y c v (listed.setIfInBounds m true)) a w:=by
 have e:ops.toList.drop m=ot::ops.toList.drop (m+1):=by
  have:=List.drop_eq_getElem_cons (l:=ops.toList) (i:=m) (by simpa using Y)
  grind
 have W:=h.wl;rw[e]at W
 have J:wpOp P ops (QN Q) m (wpList P ops (QN Q) (ops.toList.drop (m+1))) (a.put (some d) v) w:=by
  unfold wpOp;simp only[E];exact W
 refine Vl E AdE h4 h1 h2 (λa1 w1 U Z=>⟨by simpa using h.sz,λj hj=>?_,?_,Z⟩) J
 .by_cases H:m=j
  .subst H
   have:m<listed.size:=by rw[h.sz];exact Y
   have O:m≠f:=by omega
   simp[this,O]
  .rw[getD_set_ne true H,h.ls j hj]
   grind
 .obtain⟨cs,g1,g2⟩:=h.pu
  exact⟨cs,by rw[U y h3];exact g1,g2⟩
theorem AaK{Q:Exit->Act->World->Prop}(hq:QOK ops n)(hc:Region.chainB .any ops n=true)(fl:FL ops n f)(W:ops[f]? =some o)(hog:o.guard=none)(hop:o.op=.extract (.tmp y) c)(hod:o.dst=some d)
  (hot:∀t ot,n<=t->ops[t]? =some ot->Region.waitsFor .any ops t f=false->d∉ot.looksAt ops/\ot.dst≠some d/\ot.dst≠some y/\∀cs b,ot.op≠.select cs b) {v:Value}:
  ∀(H m:Nat) (listed:Array Bool) (a:Act) (w:World),n<=m->m<=ops.size->ops.size+1<=m+H->FI P ops Q f m d y c v listed a w->wpAny P .any ops Q H listed a w:=by
 intro H
 induction H with
 |zero=>intro m listed a w _ h1 h2;omega
 |succ g ih=>
  intro m listed a w hnm hms hf h;have hfn:=fl.fn;have hfs:f<ops.size:=by have:=hq.le;omega
  have hfr:f∈Region.ready .any ops listed:=by
   refine mem_ready.2 ⟨by rw[h.ls f hfs];simp,o,W,λe he hb=>?_⟩
   have h1:=hq.back f o e W he hb;rw[Jz h.sz (by omega) (h.ls e.on (by omega))]
   exact dT ⟨by omega,by omega⟩
  refine⟨λh0=>(by rw[h0]at hfr;cases hfr),λi hi=>?_⟩
  obtain⟨h1,oi,E,O⟩:=mem_ready.1 hi;have J:i<ops.size:=(Array.getElem?_eq_some_iff.1 E).1;rw[h.ls i J]at h1;have h1:=of_decide_eq_false h1;by_cases hif:i=f
  .subst hif
   obtain rfl:oi=o:=Option.some.inj (E.symm.trans W);unfold wpOp;simp only[E];have hw:Region.wanted oi (yielded ops a.tmps)=true:=by simp[Region.wanted,hog]
   rw[if_pos hw];left;obtain⟨cs,g1,g2⟩:=h.pu;have hev:a.eval (.tmp y)=.tuple cs:=by
    show a.tmps.getD y undef=_;simp[getD_eq_getD_getElem?,g1]
   have hrun:(execOp a.eval oi).run P w=.ok (.value v) w:=by
    unfold execOp;rw[hop];simp[Instr.extract,hev,g2]
   unfold Oper.wp;rw[hrun];show wpAny P .any ops Q g _ (a.put oi.dst v) w;rw[hod];refine JP hq (.inr hc) g m _ _ w hnm hms (by omega) (by simpa using h.sz) (λj hj=>?_) (JI m _ w (by omega) h.wl)
   by_cases Z:i=j
   .subst Z
    have:i<listed.size:=by rw[h.sz];exact J
    have hlt:i<m:=by omega
    simp[this,hlt]
   .rw[getD_set_ne true Z,h.ls j hj]
    have:(j<m/\j≠i)=(j<m):=propext ⟨λh=>h.1,λh=>⟨h,Ne.symm Z⟩⟩
    simp only[this]
  .have hnot:¬i<m:=λh=>h1 ⟨h,hif⟩
   have him:i=m:=by
    have h2:=aET.1 hc i (mem_range.2 J);simp only[or_eq_true,decide_eq_true_eq]at h2;rcases h2 with h2|h2
    .omega
    .by_cases he:i=m
     .exact he
     .obtain⟨o',Y,e,he',hb,U⟩:=Region.waitsFor_spec h2
      obtain rfl:o'=oi:=Option.some.inj (Y.symm.trans E);have h3:=O e he' hb;rw[U,Jz h.sz (by omega) (h.ls (i-1) (by omega))]at h3
      have:=(of_decide_eq_true h3).1;omega
   subst him;have hnw:Region.waitsFor .any ops i f=false:=by
    cases hwf:Region.waitsFor .any ops i f with
    |false=>rfl
    |true=>
     obtain⟨o',Y,e,he',hb,U⟩:=Region.waitsFor_spec hwf;obtain rfl:o'=oi:=Option.some.inj (Y.symm.trans E);have h3:=O e he' hb;rw[U,Jz h.sz hfs (h.ls f hfs)]at h3;exact absurd rfl (of_decide_eq_true h3).2
   obtain⟨g1,g2,g3,g4⟩:=hot i oi hnm E hnw;exact wpOp_mono (λa1 w1 hk=>ih (i+1) _ a1 w1 (by omega) (by omega) (by omega) hk) (LZ (by omega) J E g1 g2 g3 g4 h)
theorem X3(E:QOK ops n)(U:MOK A B ops n m)(Y:listed.size=ops.size)(H:∀i,i<n->listed.getD i true=true):pt ops n r m t0 listed=Ce ops r m t0 n:=by
 have W:=E.le;have J:∀k,k<n->listed.getD k false=true:=λk e=>by
  grind
 funext x
 rw[HU E U r t0 x n (le_refl _)];unfold pt;cases O:CJ ops n x with
 |none=>exact Ct n λi hi=>by grind
 |some k=>
  have e:=(Bk O).1;simp only[J k e,e,if_true];exact Ct n λi hi=>by grind
theorem JH{Q:Exit->Act->World->Prop}{K:Act->World->Prop}{i:Nat}{a:Act}{w:World}
  (e:wpOp P ops Q i (λE w'=>(∀o y z,ops[i]? =some o->o.guard=none->o.op=.move (.tmp y)->o.dst=some z->E=a.put (some z) (a.eval (.tmp y)))->K E w') a w):wpOp P ops Q i K a w:=by
 unfold wpOp at e⊢;cases Y:ops[i]? with
 |none=>
  simp only[Y]at e⊢;exact e λo _ _ h=>by cases h
 |some o=>
  simp only[Y]at e⊢;by_cases U:∃y z,o.guard=none/\o.op=.move (.tmp y)/\o.dst=some z
  .obtain⟨y,z,Z,W,hd⟩:=U
   have J:Region.wanted o (yielded ops a.tmps)=true:=by simp[Region.wanted,Z]
   rw[if_pos J]at e⊢;rcases e with e|e
   .left
    have O:(execOp a.eval o).run P w=.ok (.value (a.eval (.tmp y))) w:=by unfold execOp;rw[W];rfl
    unfold Oper.wp at e⊢;rw[O]at e⊢;rw[Oper.upon_value]at e⊢
    grind
   .exact .inr e
  .have key:∀E w',((∀H y z,some o=some H->H.guard=none->H.op=.move (.tmp y)->H.dst=some z->E=a.put (some z) (a.eval (.tmp y)))->K E w')->K E w':=λE w' h=>h λH y z h1 h2 h3 h4=>by
    cases h1;exact absurd ⟨y,z,h2,h3,h4⟩ U
   split
   .rename_i J
    rw[if_pos J]at e;exact e.imp (Oper.wp_mono λE w'=>key E w') id
   .rename_i J
    rw[if_neg J]at e;exact key _ _ e
def AlI(h:Cd)(ops:Array Oper)(n:Nat)(listed:Array Bool)(a:Act):Prop:=∀j,j<n->listed.getD j false=true->∀c,ops[j]? =some c->alM h ops c=true->∀y z,c.op=.move (.tmp y)->c.dst=some z->a.tmps.getD z undef=a.tmps.getD y undef
theorem AlI.at(hI:AlI h ops n listed a)(hq:QOK ops n)(hi:i<n)(hr:i∈Region.ready .any ops listed):∀oi,ops[i]? =some oi->∀z y,AlP h ops oi z y->a.tmps.getD z undef=a.tmps.getD y undef:=by
 rintro oi E z y ⟨e,W,Y,c,hc,U,J,hd⟩
 obtain⟨hun,Z,O,H⟩:=mem_ready.1 hr;obtain rfl:oi=Z:=Option.some.inj (E.symm.trans O);have hlt:=hq.back i oi e E W Y;exact hI e.on (by omega) (H e W Y) c hc U y z J hd
theorem AlI.set{Z:Act}(hI:AlI h ops n listed a)(hq:QOK ops n)
  (hst:∀j,j<n->∀o,ops[j]? =some o->Js P h ops σ o (Ce ops r m t0 j) (r j) (m j)) (inv:HeadInv .any ops n listed) {i:Nat} (hi:i<n) (hsz:a.tmps.size=h.n)
  (U:∀x,AF ops i≠some x->Z.tmps[x]? =a.tmps[x]?) (hmv:∀o y z,ops[i]? =some o->o.guard=none->o.op=.move (.tmp y)->o.dst=some z->Z=a.put (some z) (a.eval (.tmp y))):AlI h ops n (listed.setIfInBounds i true) Z:=by
 intro j hj hl c Y O y z H hd;obtain⟨hg,y2,z2,E,hd2,hnd⟩:=NI O;rw[H]at E;cases E;have hy:Z.tmps.getD y undef=a.tmps.getD y undef:=by
  rw[getD_eq_getD_getElem?,getD_eq_getD_getElem?,U y (hnd i)]
 by_cases J:j=i
 .subst J
  have hz:z<h.n:=by
   rcases hst j hj c Y with⟨W,_⟩|⟨_,d,hd3,hdn,_⟩
   .rw[O]at W;cases W
   grind
  have e:=hmv c y z Y hg H hd;rw[hy,e,BL];have hz2:z<a.tmps.size:=by rw[hsz];exact hz
  show _=a.eval (.tmp y);simp[hz2]
 .rw[getD_set_ne false (Ne.symm J)]at hl
  have hz:AF ops i≠some z:=by
   intro he;exact(hq.ne i j z c hi hj (Ne.symm J) he Y).1 hd
  rw[hy,getD_eq_getD_getElem?,U z hz,<-getD_eq_getD_getElem?];exact hI j hj hl c Y O y z H hd
theorem Adf{Q:Exit->Act->World->Prop}(hq:QOK ops n)(htl:Vj ops n)(hm:MOK (isA h ops) (isB h ops) ops n m)
  (hst:∀j,j<n->∀o,ops[j]? =some o->Js P h ops σ o (Ce ops r m t0 j) (r j) (m j))
  {a0:Act} (hend:∀a w D T,PR C h.n σ ρ F (Ce ops r m t0 n) a w D T->(∀x b,T x b->QQ ops n X x)->(∀x,(∀i,i<n->AF ops i≠some x)->a.tmps[x]? =a0.tmps[x]?)->wpList P ops Q (ops.toList.drop n) a w)
  (hend0:∀a w D T,PR C h.n σ ρ F (Ce ops r m t0 n) a w D T->(∀x b,T x b->QQ ops n X x)->(∀x,(∀i,i<n->AF ops i≠some x)->a.tmps[x]? =a0.tmps[x]?)->wpList P ops (QN Q) (ops.toList.drop n) a w):
  ∀(fuel:Nat) (listed:Array Bool) (a:Act) (w:World) (D:Nat->Prop) (T:Nat->Nat->Prop),HeadInv .any ops n listed->unl listed n+(ops.size-n)<=fuel->
   PR C h.n σ ρ F (pt ops n r m t0 listed) a w D T->(∀x b,T x b->QQ ops n X x)->(∀x,(∀i,i<n->AF ops i≠some x)->a.tmps[x]? =a0.tmps[x]?)->AlI h ops n listed a->wpAny P .any ops Q fuel listed a w:=by
 intro fuel
 induction fuel with
 |zero=>
  intro listed a w D T H hf hp hT hA hI;have hle:=hq.le;have O:∀i,i<n->listed.getD i true=true:=by
   intro i hi;cases hu:listed.getD i true with
   |true=>rfl
   |false=>have:=PK hu n hi;omega
  have hpt:pt ops n r m t0 listed=Ce ops r m t0 n:=by
   funext x
   rw[HU hq hm r t0 x n (le_refl _)];unfold pt;have ld:∀k,k<n->listed.getD k false=true:=λk U=>by
    have h1:=O k U;have h2:k<listed.size:=by rw[H.size];omega
    simp[h2]at h1⊢;exact h1
   cases ho:CJ ops n x with
   |none=>exact Ct n λi hi=>by rw[ld i hi];simp[hi]
   |some k=>
    have U:=(Bk ho).1;simp only[ld k U,U,if_true];exact Ct n λi hi=>by rw[ld i hi];simp[hi]
  rw[hpt]at hp;refine JP hq (htl.imp id And.left) 0 n listed a w (le_refl _) hle (by omega) H.size (λj hj=>?_) (hend _ _ _ _ hp hT hA)
  by_cases J:j<n
  .rw[O j J];simp[J]
  .rw[H.tail j (by omega) hj];simp[J]
 |succ f ih=>
  intro listed a w D T H hf hp hT hA hI;have hle:=hq.le;by_cases O:∀i,i<n->listed.getD i true=true
  .have hpt:pt ops n r m t0 listed=Ce ops r m t0 n:=by
    funext x
    rw[HU hq hm r t0 x n (le_refl _)];unfold pt;have ld:∀k,k<n->listed.getD k false=true:=λk U=>by
     have h1:=O k U;have h2:k<listed.size:=by rw[H.size];omega
     simp[h2]at h1⊢;exact h1
    cases ho:CJ ops n x with
    |none=>exact Ct n λi hi=>by rw[ld i hi];simp[hi]
    |some k=>
     have U:=(Bk ho).1;simp only[ld k U,U,if_true];exact Ct n λi hi=>by rw[ld i hi];simp[hi]
   rw[hpt]at hp;refine JP hq (htl.imp id And.left) (f+1) n listed a w (le_refl _) hle (by omega) H.size (λj hj=>?_) (hend _ _ _ _ hp hT hA)
   by_cases J:j<n
   .rw[O j J];simp[J]
   .rw[H.tail j (by omega) hj];simp[J]
  .have hex:∃i,i<n/\listed.getD i true=false:=by
    apply Classical.byContradiction;intro hno;apply O;intro i hi;cases hu:listed.getD i true with
    |true=>rfl
    |false=>exact absurd ⟨i,hi,hu⟩ hno
   obtain⟨i,⟨W,hun⟩,hmin⟩:=Wd hex;have hoi:ops[i]? =some ops[i]:=by
    have:i<ops.size:=by omega
    simp[this]
   have hir:i∈Region.ready .any ops listed:=by
    refine mem_ready.2 ⟨hun,ops[i],hoi,λe he hb=>?_⟩
    have h1:=hq.back i ops[i] e hoi he hb;have h2:=hmin e.on h1;have h3:e.on<listed.size:=by rw[H.size];omega
    cases hu:listed.getD e.on true with
    |false=>exact absurd ⟨by omega,hu⟩ h2
    |true=>simp[h3]at hu⊢;exact hu
   refine⟨λh0=>(by rw[h0]at hir;cases hir),λj hj=>?_⟩
   have hjs:j<ops.size:=by
    obtain⟨_,o,ho,_⟩:=mem_ready.1 hj;exact(Array.getElem?_eq_some_iff.1 ho).1
   rcases lt_or_ge j n with J|J
   case inr=>
    rcases htl with ht|⟨hc,hs|⟨ff,fl⟩⟩
    .omega
    .exact absurd hj (tail_waits hs hc (by omega) H _ i rfl W hun j J)
    .obtain⟨hju,oj,hoj,Z⟩:=mem_ready.1 hj
     have hjn':j=n:=by
      have h2:=aET.1 hc j (mem_range.2 hjs);simp only[or_eq_true,decide_eq_true_eq]at h2;rcases h2 with h2|h2
      .omega
      .by_cases he:j=n
       .exact he
       .obtain⟨o',ho',e,he',hb,hon⟩:=Region.waitsFor_spec h2
        obtain rfl:o'=oj:=Option.some.inj (ho'.symm.trans hoj);have h3:=Z e he' hb;rw[hon,getD_both (H.tail (j-1) (by omega) (by omega))]at h3
        cases h3
     subst hjn';have lst:∀k,k<j->k≠ff->listed.getD k false=true:=λk U hkf=>by
      obtain⟨o',ho',e,he',hb,hon⟩:=Region.waitsFor_spec (fl.others k U hkf);obtain rfl:o'=oj:=Option.some.inj (ho'.symm.trans hoj);have h3:=Z e he' hb;rwa [hon]at h3
     have lstT:∀k,k<j->k≠ff->listed.getD k true=true:=λk U hkf=>by
      have h1:=lst k U hkf;have h2:k<listed.size:=by rw[H.size];omega
      simp[h2]at h1⊢;exact h1
     have hif:i=ff:=by
      by_cases he:i=ff
      .exact he
      .have:=lstT i W he
       rw[hun]at this;cases this
     subst hif;obtain⟨o,y,c,d,hof,hog,hop,hod,hot⟩:=fl.it;have hfr:i∈Region.ready .any ops listed:=hir;have hinv':=H.set hfr W
     have hallL:∀k,k<j->(listed.setIfInBounds i true).getD k true=true:=λk U=>by
      by_cases Y:i=k
      .subst Y
       have:i<listed.size:=by rw[H.size];omega
       simp[this]
      .rw[getD_set_ne true Y];exact lstT k U (Ne.symm Y)
     have E:=Ia (P:=P) (h:=h) (ops:=ops) (Q:=λ_ _ _=>False) (K:=wpList P ops (QN Q) (ops.toList.drop j)) hq hm H W hfr hst hp hT (hI.at hq W hfr) (λa' w' D' T' hp' hT' htm'=>by
      rw[X3 hq hm hinv'.size hallL]at hp';exact hend0 a' w' D' T' hp' hT' λx hx=>(htm' x (hx i W)).trans (hA x hx))
     unfold wpOp at E;simp only[hof]at E;have hw:Region.wanted o (yielded ops a.tmps)=true:=by simp[Region.wanted,hog]
     rw[if_pos hw]at E;rcases E with E|⟨_,_,_,E⟩
     case inr=>exact E.elim
     have hFI:∃v,FI P ops Q i j d y c v listed a w:=by
      unfold Oper.wp at E;have hex:execOp a.eval o=(do let v<-Instr.extract (a.eval (.tmp y)) c;pure (.value v)):=by unfold execOp;rw[hop]
      rw[hex]at E
      have hlsd:∀k,k<ops.size->listed.getD k true=decide (k<j/\k≠i):=λk U=>by
       by_cases hkj:k<j
       .by_cases Y:k=i
        .subst Y;rw[hun];simp
        .rw[lstT k hkj Y];simp[hkj,Y]
       .rw[H.tail k (by omega) U];simp[hkj]
      have hevd:a.eval (.tmp y)=a.tmps.getD y undef:=rfl;cases hv:a.eval (.tmp y)with
      |tuple cs=>
       cases hcs:cs[c]? with
       |some v=>
        refine⟨v,H.size,hlsd,⟨cs,?_,hcs⟩,?_⟩
        .rw[hevd,getD_eq_getD_getElem?]at hv
         cases hty:a.tmps[y]? with
         |none=>rw[hty]at hv;cases hv;simp at hcs
         |some u=>rw[hty]at hv;simp at hv;rw[hv]
        .simp only[hv,Instr.extract,hcs]at E
         have E:wpList P ops (QN Q) (ops.toList.drop j) (a.put o.dst v) w:=by simpa [Oper.upon]using E
         rw[hod]at E;exact E
       |none=>
        simp only[hv,Instr.extract,hcs]at E;simp[Oper.upon,stuck]at E
      |_=>
       simp only[hv,Instr.extract]at E;simp[Oper.upon,stuck]at E
     obtain⟨v,hFI⟩:=hFI;have hnw:Region.waitsFor .any ops j i=false:=by
      cases hwf:Region.waitsFor .any ops j i with
      |false=>rfl
      |true=>
       obtain⟨o',ho',e,he',hb,hon⟩:=Region.waitsFor_spec hwf;obtain rfl:o'=oj:=Option.some.inj (ho'.symm.trans hoj);have h3:=Z e he' hb;rw[hon,getD_both hun]at h3;cases h3
     obtain⟨g1,g2,g3,g4⟩:=hot j oj (le_refl _) hoj hnw;have hu:0<unl listed j:=PK hun j W;exact wpOp_mono (λa1 w1 U=>AaK hq hc fl hof hog hop hod hot f (j+1) _ a1 w1 (by omega) (by omega) (by omega) U) (LZ W hjs hoj g1 g2 g3 g4 hFI)
   have hju:=(mem_ready.1 hj).1;have hcount:=PJ (by rw[H.size];exact hjs) hju n
   rw[if_pos J]at hcount;refine JH (Ia hq hm H J hj hst hp hT (hI.at hq J hj) λa' w' D' T' hp' hT' htm' hmv=>ih _ a' w' D' T' (H.set hj J) (by omega) hp' hT' (λx hx=>(htm' x (hx j J)).trans (hA x hx)) (hI.set hq hst H J hp.sz htm' hmv))
theorem PR.prom{N:Nat}{t:Nat->V}{a:Act}{w:World}{D:Nat->Prop}{T:Nat->Nat->Prop}(e:PR C N σ ρ F t a w D T){d:Nat}(Y:d<N):
  ∃ρ' F',PR C N (σ++(Go.Ve.prom (t d) σ.length).2) ρ' F' (AD t d (Go.Ve.prom (t d) σ.length).1) a w D (λx=>if x=d then noF else T x):=by
 obtain⟨ρ',F',ok,W⟩:=IC (t d) σ ρ F _ (T d) e.wr (e.tm d Y) (e.tD d) (λi b E=>e.tF i d b E)
 refine⟨ρ',F',e.df,e.sz,λx J=>?_,ok.wr,λx J=>?_,λx b E=>?_,λi x b E O=>?_,λx y b U h1 Z=>?_,λx b E=>?_,e.fr,λi b E=>?_,e.D1,e.D2,
  λi hi=>(ok.rt i (Nat.lt_of_lt_of_le hi e.ml)).trans (e.rt i hi),by have:=e.ml;simp;omega,λx b J E=>?_⟩
 .have:¬x=d:=by omega
  simp only[AD,this,if_false];exact e.dd x J
 .by_cases H:x=d
  .subst H;simp only[AD,if_true];exact W
  .simp only[AD,H,if_false]
   exact Rel.mono (λ_ h=>h) (λv cv hv=>Ai.ext ok.rt _ _ hv) _ _ _ (λ_ _=>rfl) (e.tm x J)
 .split at E
  .exact E.elim
  .exact e.tD x b E
 .split at O
  .exact O
  .rename_i H
   by_cases hi:i<σ.length
   .rw[ok.old i hi]at E;exact e.tF i x b E O
   .exact e.tT d x b (Ne.symm H) (ok.new i b (le_of_not_lt hi) E) O
 .split at h1
  .exact h1
  .split at Z
   .exact Z
   .exact e.tT x y b U h1 Z
 .split at E
  .exact E.elim
  .exact e.tn x b E
 .by_cases hi:i<σ.length
  .rw[ok.old i hi]at E;exact e.Fn i b E
  .exact e.tn d b (ok.new i b (le_of_not_lt hi) E)
 .split at E
  .exact E
  .exact e.tx x b J E
end
theorem PR.close{C:Ctx}:∀(ds:List (Option Nat)) (t:Nat->V) (σ:List V) (ρ:Nat->Value) (F:Nat->Nat->Prop) (T:Nat->Nat->Prop),PR C N σ ρ F t a w D T->
  (∀x b,T x b->some x∈ds)->AN C N (promA ds ⟨t,σ⟩) a w:=by
 intro ds
 induction ds with
 |nil=>
  intro t σ ρ F T E U;refine⟨E.df,E.dd,D,ρ,F,E.wr,by simpa using E.sz,λx O=>?_,E.fr,E.Fn,E.D1,E.D2,E.rt,E.ml⟩
  have J:x<N:=by simpa using O
  have h1:=E.tm x J;have e:T x=noF:=A4 (λb hb=>by cases U x b hb)
  rw[e]at h1;rw[AP J];exact h1
 |cons d ds W=>
  intro t σ ρ F T E U;cases d with
  |none=>
   refine W t σ ρ F T E λx b h=>?_
   have:=U x b h;simpa using this
  |some d=>
   unfold promA;split
   .rename_i H
    have Z:d<N:=by
     rcases lt_or_ge d N with h|h
     .exact h
     .simp only[E.dd d h]at H;cases H
    obtain⟨ρ',F',Y⟩:=E.prom Z;refine W _ _ ρ' F' _ Y λx b h=>?_
    split at h
    .exact h.elim
    grind
   .rename_i H
    refine W t σ ρ F T E λx b h=>?_
    have:=U x b h;rcases mem_cons.1 this with he|he
    .cases he
     by_cases O:d<N
     .exact absurd h (AC _ _ _ (by simpa using H) (E.tm d O) b)
     .exact absurd h (E.tx d b (le_of_not_lt O))
    .exact he
end Go.Ve

