/- The typed machine over code: what a body computes, as a function; that it does. -/
import Derived.Test.YteakdlfnmhlifaaTl
open Nat(beq ble beq_refl)
open List(mem_singleton length_map mem_cons all_cons map_cons map_map)
set_option linter.all false
namespace Go.Ve
variable{C:Ctx}{cs:List Dy}{L Rh:List Nat}{b:List Oper}{d:Nat}{P:Program}{s:St}{u:Ty}{R X:Type}
inductive LO(X R:Type) where
 |next (x:X)
 |brk (id:Nat) (x:X)
 |ret (r:R)
inductive C9{X R:Type}(f:X->Option (LO X R)):X->LO X R->Nat->Prop where
 |brk {x y:X}{id:Nat}:f x=some (.brk id y)->C9 f x (.brk id y) 0
 |ret {x:X}{r:R}:f x=some (.ret r)->C9 f x (.ret r) 0
 |step {x y:X}{o:LO X R}{n:Nat}:f x=some (.next y)->C9 f y o n->C9 f x o (n+1)
noncomputable def Ap{X R:Type}(f:X->Option (LO X R))(x:X):Option (LO X R):=@dite _ (∃o n,C9 f x o n) (Classical.propDecidable _) (λh=>some (Classical.choose h)) λ_=>none
theorem C9.det{f:X->Option (LO X R)}:∀{x:X}{o A:LO X R}{n B:Nat},C9 f x o n->C9 f x A B->o=A/\n=B:=by
 intro x o A n B h
 induction h generalizing A B with
 |brk h=>intro e;cases e with
  |brk e=>grind
  |ret e=>grind
  |step e _=>grind
 |ret h=>intro e;cases e with
  |brk e=>grind
  |ret e=>grind
  |step e _=>grind
 |step h _ F=>intro e;cases e with
  |brk e=>grind
  |ret e=>grind
  |step e H=>grind
theorem C0{f:X->Option (LO X R)}{x:X}{o:LO X R}:Ap f x=some o↔ ∃n,C9 f x o n:=by
 unfold Ap;split
 .rename_i h
  obtain⟨n,e⟩:=Classical.choose_spec h;constructor
  .grind
  .rintro ⟨B,A⟩;rw[(e.det A).1]
 grind
def Bn(f:X->Option (LO X R))(x:X):Ap f x=(f x).bind λo=>match o with
  |.next y=>Ap f y
  |.brk id y=>some (.brk id y)
  |.ret r=>some (.ret r):=by
 cases A:f x with
 |none=>
  show Ap f x=none;cases h:Ap f x with
  |none=>rfl
  |some o=>
   obtain⟨n,B⟩:=C0.1 h;cases B with
   |brk e=>rw[A]at e;cases e
   |ret e=>rw[A]at e;cases e
   |step e _=>rw[A]at e;cases e
 |some o=>
  cases o with
  |brk id y=>exact C0.2 ⟨0,.brk A⟩
  |ret r=>exact C0.2 ⟨0,.ret A⟩
  |next y=>
   show Ap f x=Ap f y;cases h:Ap f y with
   |some o=>obtain⟨n,B⟩:=C0.1 h;exact C0.2 ⟨n+1,.step A B⟩
   |none=>
    cases H:Ap f x with
    |none=>rfl
    |some o=>
     obtain⟨n,B⟩:=C0.1 H;cases B with
     |brk e=>rw[A]at e;cases e
     |ret e=>rw[A]at e;cases e
     |step e F=>rw[A]at e;cases e;rw[C0.2 ⟨_,F⟩]at h;cases h
def BT:List Ty->Ty
 |[]=>.unit
 |[t]=>t
 |t::u::l=>.pair t (BT (u::l))
def toX:(e:List Ty)->List Dy->Option (BT e).T
 |[],[]=>some ()
 |[t],[y]=>IU t y
 |t::u::l,y::ys=>match IU t y with
  |some x=>match toX (u::l) ys with
   |some z=>some (x,z)
   |none=>none
  |none=>none
 |_,_=>none
def ofX:(e:List Ty)->(BT e).T->List Dy
 |[],_=>[]
 |[t],x=>[⟨t,x⟩]
 |t::u::l,x=>⟨t,x.1⟩::ofX (u::l) x.2
theorem ZG:∀(e:List Ty) (cs:List Dy) (x:(BT e).T),toX e cs=some x->ofX e x=cs
 |[],[],x,h=>rfl
 |[t],[y],x,h=>by show [⟨t,x⟩]=[y];rw[HG h]
 |t::u::l,y::ys,x,h=>by
  have h:(match IU t y with
   |some x=>match toX (u::l) ys with
    |some z=>some (x,z)
    |none=>none
   |none=>none:Option (BT (t::u::l)).T)=some x:=h
  split at h
  case h_2=>grind
  rename_i A F;split at h
  case h_2=>grind
  rename_i z B;cases h;show⟨t,A⟩::ofX (u::l) z=_;rw[HG F,ZG (u::l) ys z B]
 |[],_::_,_,h=>by cases h
 |[_],[],_,h=>by cases h
 |[_],_::_::_,_,h=>by cases h
 |_::_::_,[],_,h=>by cases h
structure I0 extends Env where
 lp:List (Nat×List Nat×List Nat)
 dn:List (Nat×Nat)
variable{E:I0}
def BX:Code->Nat
 |.region id _ _=>id
 |.seq a b=>match a with
  |.skip=>BX b
  |.label _=>BX b
  |a=>BX a
 |.block _ b=>BX b
 |.loop b=>BX b
 |.scope b=>BX b
 |_=>0
def Bl:Code->List Oper
 |.region _ ops _=>ops.toList
 |.seq a b=>Bl a++Bl b
 |.cond _ a b=>Bl a++Bl b
 |.block _ b=>Bl b
 |.loop b=>Bl b
 |.scope b=>Bl b
 |_=>[]
def Pf:Code->List Nat
 |.exit id=>[id]
 |.seq a b=>Pf a++Pf b
 |.cond _ a b=>Pf a++Pf b
 |.block id b=>(Pf b).filter λi=>!beq i id
 |.loop b=>Pf b
 |_=>[]
def lookN{α:Type}(d:α):List (Nat×α)->Nat->α
 |[],_=>d
 |(i,x)::l,k=>bif beq i k then x else lookN d l k
def clId:Cl->List Nat
 |.rf id _=>[id]
 |.rp id _ _ _=>[id]
 |.rs id _ _ _=>[id]
 |.rm id _=>[id]
 |_=>[]
def slId:Sl->List Nat
 |.one c=>clId c
 |.pk _ l=>l.flatMap clId
 |_=>[]
def condN(s:St)(c:Nat):Bool:=bif ble 2000000 c then(match slId (s.t (c-2000000))with
 |[]=>true
 |_=>false)else bif ble 1000000 c then(slId (s.t ((c-1000000)/1000))).any λi=>beq i ((c-1000000) % 1000)else true
def Aad(s:St):List (Nat×List Nat×List Nat)->Nat->List Nat×List Nat
 |[],_=>([],[])
 |(i,L,R)::l,k=>bif beq i k then(bif R.all (condN s)then(L,R.filter λc=>!ble 1000000 c)else Aad s l k)else Aad s l k
def YD(o:Oper):Bool:=match o.op with
 |.store _ _ _=>true
 |_=>false
def Ac8(o:Oper):Bool:=match o.op with
 |.build _ _=>true
 |.buildSlice _ _ _=>true
 |_=>YD o
def YE(E:Env)(o:Oper):Bool:=YD o||match Yp E o with
 |some (.app _ _ _ _)=>true
 |some (.cw _ _ _)=>true
 |_=>false
def WY:List Oper->Nat
 |[]=>0
 |o::l=>match o.op with
  |.assign _=>WY l+1
  |_=>0
def isNew(ops:Array Oper)(y:Nat):Bool:=ops.toList.any λo=>match o.op,o.dst with
 |.alloc _,some d=>beq d y
 |_,_=>false
def isMade(ops:Array Oper)(y:Nat):Bool:=ops.toList.any λo=>match o.dst with
 |some d=>beq d y&&(match o.op with
  |.buildSlice _ _ _=>true
  |.makeSlice _ _ _=>true
  |op=>(Y9 op).isSome)
 |none=>false
def isLate(E:Env)(ops:Array Oper)(o:Oper):Bool:=match o.op with
 |.mapUpdate _ _ _ _=>true
 |.store _ (.tmp y) _=>!isNew ops y
 |.store _ _ _=>true
 |_=>match Y9 o.op with
  |some (_,.tmp y,_)=>!isMade ops y
  |some _=>true
  |none=>YE E o
def headD(E:Env)(ops:Array Oper):Nat:=bif ops.toList.any (YE E)then ops.toList.findIdx (λo=>Ac8 o||YE E o)else
 bif Iy ops (ops.size-WY ops.toList.reverse)then ops.size-WY ops.toList.reverse else ops.size
def headN(E:I0)(id:Nat)(ops:Array Oper):Nat:=lookN (bif Iy ops (headD E.toEnv ops)then headD E.toEnv ops else ops.toList.findIdx (isLate E.toEnv ops)) E.dn id
def brkK{R:Type}(K:Exit->St->Option R):List Nat->Nat->St->Option R
 |[],_,_=>none
 |i::l,id,s=>nif id i (K (.exit i) s) (brkK K l id s)
@[reducible] def BF {X R:Type} (o:Option R):Option (LO X R):=o.map .ret
@[reducible] def LO.fin {X R:Type} (f:Nat->X->Option R):LO X R->Option R
 |.brk id x=>f id x
 |.ret r=>some r
 |.next _=>none
def Wa{R:Type}(L Rh:List Nat)(s:St)(keep:Nat)(A:List Ty)(K:Exit->St->Option R)(e:Exit)(s':St):Option (LO (BT A).T R):=match e with
 |.normal=>match Adi L Rh s s' keep with
  |some cs=>match toX A cs with
   |some x=>some (.next x)
   |none=>none
  |none=>none
 |.exit id=>match Adi L Rh s s' keep with
  |some cs=>match toX A cs with
   |some x=>some (.brk id x)
   |none=>none
  |none=>none
 |.ret=>BF (K .ret s')
 |_=>none
def AaN{R:Type}(b:Code)(L Rh:List Nat)(s:St)(e:List Ty)(K:Exit->St->Option R):LO (BT e).T R->Option R:=
 LO.fin λid x=>brkK K (Pf b).eraseDups id (BB false (Bl b) L Rh s (ofX e x))
def OV(b:List Oper)(L Rh:List Nat)(s:St):Bool:=L.all (λd=>!(Au b d&&(s.t d).stay))&&Rh.all λi=>!(s.r.getD i .dead).isRo
def M5:List Nat->St->St
 |[],s=>s
 |id::l,s=>match s.r.getD id .dead with
  |.arr false (.sl u) d xs=>bif beq u.dep 0 then M5 l ⟨s.t,s.r.set id (.arr false (.osl u) d (OT xs))⟩else M5 l s
  |_=>M5 l s
def ozOf:List (Nat×Nat)->Nat->List Nat
 |[],_=>[]
 |(a,b)::l,k=>bif beq a (k+1000000)then b::ozOf l k else ozOf l k
def Kf:∀(u:Ty) (d:Nat) (x:u.T),u.dep=0->∀c∈Aq u d x,∀ro,c.node ro=.dead
 |.int _,_,_,_,c,h,_=>by rw[mem_singleton.1 h];rfl
 |.bool,_,_,_,c,h,_=>by rw[mem_singleton.1 h];rfl
 |.str,_,_,_,c,h,_=>by rw[mem_singleton.1 h];rfl
 |.unit,_,_,_,c,h,_=>by cases h
 |.pair a b,d,x,hd,c,h,ro=>by
  simp[Ty.dep]at hd;rcases List.mem_append.1 h with h|h
  .exact Kf a d x.1 (by omega) c h ro
  .exact Kf b d x.2 (by omega) c h ro
 |.sl _,_,_,h,_,_,_=>by trivial
 |.ptr _,_,_,h,_,_,_=>by trivial
 |.clo _ _,_,_,h,_,_,_=>by trivial
 |.osl _,_,_,h,_,_,_=>by trivial
def UM{α:Type}(xs:List (List α))(i:Nat):(OT xs).getD i (some [])=some (xs.getD i []):=by
 unfold OT;simp
def AcN{xs:List (List u.T)}:(Ab.arr false (.osl u) d (OT xs)).v=(Ab.arr false (.sl u) d xs).v:=by
 show arr true 1 (tyV (.osl u) d) (some []) (OT xs)=arr true 1 (tyV (.sl u) d) [] xs;unfold arr;have e:(OT xs).length=xs.length:=by simp[OT]
 congr 1
 funext i k
 rw[UM];rfl
def Yc{xs:List (List u.T)}(F:u.dep=0):∀q:AG,((Ab.arr false (.osl u) d (OT xs)).at' q).len=((Ab.arr false (.sl u) d xs).at' q).len
 |[]=>by show(OT xs).length=xs.length;simp[OT]
 |(i,0)::q=>by
  show(((Cl.c (.osl u) d ((OT xs).getD i (some []))).node false).at' q).len=(((Cl.c (.sl u) d (xs.getD i [])).node false).at' q).len;rw[UM];cases d with
  |zero=>rfl
  |succ d=>
   cases q with
   |nil=>rfl
   |cons a q=>
    obtain⟨A,k2⟩:=a;show(((([]:List Cl).getD k2 .dead).node false).at' q).len=((((Aq u d ((xs.getD i []).getD A u.dflt)).getD k2 .dead).node false).at' q).len
    have e:((Aq u d ((xs.getD i []).getD A u.dflt)).getD k2 .dead).node false=.dead:=by
     by_cases B:k2<(Aq u d ((xs.getD i []).getD A u.dflt)).length
     .rw[gDE,gEE B]
      exact Kf u d _ F _ (List.getElem_mem B) _
     .rw[gDE,List.getElem?_eq_none (by omega)];rfl
    rw[e];rfl
 |(i,k+1)::q=>by
  rfl
theorem H2:∀(l:List Nat) (s:St),(M5 l s).den=s.den/\∀g,Kp g s (M5 l s)
 |[],s=>⟨rfl,λg=>Kp.refl _ _⟩
 |id::l,s=>by
  unfold M5;split
  .rename_i u d xs F
   cases Y:beq u.dep 0 with
   |false=>exact H2 l s
   |true=>
    have U:=bqE Y;obtain⟨h1,Z⟩:=H2 l ⟨s.t,s.r.set id (.arr false (.osl u) d (OT xs))⟩;have J:id<s.r.length:=by
     grind
    have W:∀id' q,(Ac (s.r.set id (.arr false (.osl u) d (OT xs))) id' q).len=(Ac s.r id' q).len:=by
     intro id' q;by_cases O:id'=id
     .subst O
      unfold Ac;have e:(s.r.set id' (.arr false (.osl u) d (OT xs))).getD id' .dead=.arr false (.osl u) d (OT xs):=by simp[J]
      rw[e,F];exact Yc U q
     .rw[A9 O]
    have B:(s.r.set id (.arr false (.osl u) d (OT xs))).map Ab.v=s.r.map Ab.v:=by
     rw[List.map_set,AcN,<-F];apply List.ext_getElem?
     grind
    refine⟨?_,λg=>?_⟩
    .show(M5 l _).den=_
     rw[h1];unfold St.den;simp only[B]
     congr 1
     funext i
     exact Sl.v_lens W _
    .refine Kp.trans (s1:=⟨s.t,s.r.set id (.arr false (.osl u) d (OT xs))⟩) (g1:=g) (g2:=g) ⟨λi _ _=>rfl,λid' _ A=>?_,by simp⟩ (Z g) (λ_ h=>h) λ_ h=>h
     have H:id≠id':=by
      rintro rfl
      rw[F]at A;cases A
     simp only[gDE,List.getElem?_set_ne H]
  .exact H2 l s
noncomputable def CH(H:Code->{R:Type}->St->(Exit->St->Option R)->Option R)(E:I0):Code->{R:Type}->St->(Exit->St->Option R)->Option R
 |.skip,_,s,K=>K .normal s
 |.region _ ops false,_,s,K=>tops E.toEnv ops (Zr ops.size ops.toList) s (K .normal)
 |.region id ops true,_,s,K=>Aca E.toEnv (headN E id ops) ops s (K .normal)
 |.seq a b,_,s,K=>CH H E a s λe s'=>match e with
  |.normal=>CH H E b s' K
  |.exit id=>K (.exit id) s'
  |.ret=>K .ret s'
  |.goto l=>K (.goto l) s'
  |_=>none
 |.cond c x y,_,s,K=>match s.ev c with
  |some (.one (.c .bool _ b))=>Wx b (CH H E x s K) (CH H E y s K)
  |_=>none
 |.block id b,_,s,K=>CH H E b s λe s'=>match e with
  |.exit i=>bif beq i id then K .normal s' else K (.exit i) s'
  |.normal=>K .normal s'
  |.ret=>K .ret s'
  |.goto l=>K (.goto l) s'
  |_=>none
 |.loop b,R,s0,K=>match M5 (ozOf E.dn (BX b)) s0 with
  |s=>match Aad s E.lp (BX b)with
  |(L,Rh)=>bif OV (Bl b) L Rh s then(match Adi L Rh s s E.h.keep with
   |some cs=>match toX (cs.map (·.t)) cs with
    |some x=>II (Ap (λx=>CH H E b (BB true (Bl b) L Rh s (ofX (cs.map (·.t)) x)) (Wa L Rh s E.h.keep (cs.map (·.t)) K)) x) (AaN b L Rh s (cs.map (·.t)) K)
    |none=>none
   |none=>none)else none
 |.exit id,_,s,K=>K (.exit id) s
 |.label _,_,s,K=>K .normal s
 |.goto l,_,s,K=>K (.goto l) s
 |.ret,_,s,K=>K .ret s
 |.scope c,_,s,K=>H c s K
 |_,_,_,_=>none
noncomputable def ZJ(E:I0):Code->{R:Type}->St->(Exit->St->Option R)->Option R:=CH (λ_ _ _ _=>.none) E
theorem Kz{t0:Nat->Sl}:∀(L:List Nat) (cs:List Dy) (t:Nat->Sl) (i:Nat),L.contains i=false->(Le t0 L cs t).1 i=t i
 |[],cs,t,i,_=>rfl
 |d::L,cs,t,i,h=>by
  rw[List.contains_cons,Bool.or_eq_false_iff]at h;unfold Le;rw[Kz L _ _ i h.2];have e:i≠d:=by
   grind
  exact A5 e
def Id{r0:List Ab}:∀(Rh:List Nat) (cs:List Dy) (r:List Ab) (i:Nat),Rh.contains i=false->(HC r0 Rh cs r).getD i .dead=r.getD i .dead
 |[],cs,r,i,_=>rfl
 |d::L,cs,r,i,h=>by
  rw[List.contains_cons,Bool.or_eq_false_iff]at h;unfold HC;rw[Id L _ _ i h.2]
  grind
def Ic{r0:List Ab}:∀(Rh:List Nat) (cs:List Dy) (r:List Ab),(HC r0 Rh cs r).length=r.length
 |[],cs,r=>rfl
 |d::L,cs,r=>by unfold HC;rw[Ic L,List.length_set]
theorem YH{ro:Bool}(h:OV b L Rh s=true):Kp (Au b) s (BB ro b L Rh s cs):=by
 unfold OV at h;rw[bAE]at h;refine⟨λi hi F=>?_,λid H A=>?_,?_⟩
 .have B:L.contains i=false:=by
   grind
  show(Le s.t L cs _).1 i=_;rw[Kz L _ _ i B];show(bif Au b i&&(s.t i).stay then s.t i else _)=_;rw[hi,F];rfl
 .have B:Rh.contains id=false:=by
   grind
  show(HC s.r Rh _ (bif ro then s.r.map BH else s.r)).getD id .dead=_;rw[Id Rh _ _ id B];cases ro with
  |false=>rfl
  |true=>
   show(s.r.map BH).getD id .dead=_
   have e:(s.r.map BH).getD id .dead=BH (s.r.getD id .dead):=by
    simp only[gDE,List.getElem?_map];cases s.r[id]? <;>rfl
   rw[e];generalize s.r.getD id .dead=x at A;cases x with
   |dead=>rfl
   |obj ro l=>have A:ro=true:=A;subst A;rfl
   |arr ro t d xs=>have A:ro=true:=A;subst A;rfl
   |opt ro t d xs=>have A:ro=true:=A;subst A;rfl
   |mp ro k v xs=>have A:ro=true:=A;subst A;rfl
 .show s.r.length<=(HC s.r Rh _ (bif ro then s.r.map BH else s.r)).length
  rw[Ic];cases ro<;>simp
theorem Wk{s':St}(J:Kp (Au b) (BB true b L Rh s cs) s'):
  (∀i,L.contains i=false->Au b i=true->(s.t i).stay=true->s'.t i=s.t i)/\
  (∀id,id<s.r.length->Rh.contains id=false->(s'.r.getD id .dead).v=(s.r.getD id .dead).v/\(s'.r.getD id .dead).len=(s.r.getD id .dead).len)/\
  (∀id,id<s.r.length->Rh.contains id=false->∀q:AG,((s'.r.getD id .dead).at' q).len=((s.r.getD id .dead).at' q).len):=by
 have U:∀id,id<s.r.length->Rh.contains id=false->s'.r.getD id .dead=BH (s.r.getD id .dead):=λid H F=>by
  have e:(BB true b L Rh s cs).r.getD id .dead=BH (s.r.getD id .dead):=by
   show(HC s.r Rh _ (s.r.map BH)).getD id .dead=_;rw[Id Rh _ _ id F]
   grind
  have B:(BH (s.r.getD id .dead)).isRo=true:=by cases s.r.getD id .dead<;>rfl
  have A:(BB true b L Rh s cs).r.length=s.r.length:=by
   show(HC s.r Rh _ (s.r.map BH)).length=_;rw[Ic,length_map]
  rw[J.r id (by rw[A];exact H) (by rw[e];exact B),e]
 refine⟨λi F hi O=>?_,λid H F=>?_,λid H F q=>by rw[U id H F];exact Aa2 q _ _ (JU _)⟩
 .have e:(BB true b L Rh s cs).t i=s.t i:=by
   show(Le s.t L cs _).1 i=_;rw[Kz L _ _ i F]
   grind
  rw[J.t i hi (by rw[e];exact O),e]
 .have e:(BB true b L Rh s cs).r.getD id .dead=BH (s.r.getD id .dead):=by
   show(HC s.r Rh _ (s.r.map BH)).getD id .dead=_;rw[Id Rh _ _ id F]
   grind
  have B:(BH (s.r.getD id .dead)).isRo=true:=by cases s.r.getD id .dead<;>rfl
  have A:(BB true b L Rh s cs).r.length=s.r.length:=by
   show(HC s.r Rh _ (s.r.map BH)).length=_;rw[Ic,length_map]
  rw[J.r id (by rw[A];exact H) (by rw[e];exact B),e]
  exact MK _
theorem Pv{R:Type}{K:Exit->St->Option R}{z:R}{s:St}:∀(l:List Nat) (id:Nat),brkK K l id s=some z->K (.exit id) s=some z
 |[],id,h=>by cases h
 |i::l,id,h=>by
  have h:(if id=i then K (.exit i) s else brkK K l id s)=some z:=h
  split at h
  .grind
  .exact Pv l id h
def AcW{P:Program}{H:Code->{R:Type}->St->(Exit->St->Option R)->Option R}(F:C.m<=E.h.keep){b:Code}
  (ih:∀{R:Type} (s:St) (K:Exit->St->Option R) (z:R) (Q:Exit->Act->World->Prop) (a:Act) (w:World),AN C E.h.n s.den a w->CH H E b s K=some z->(∀e s' W w',Kp (Au (Bl b)) s s'->AN C E.h.n s'.den W w'->K e s'=some z->Q e W w')->b.wp P Q a w)
  {R:Type}{s:St}{K:Exit->St->Option R}{z:R}{Q:Exit->Act->World->Prop}{a:Act}{w:World} (hs:AN C E.h.n s.den a w) {L Rh:List Nat} (hok:OV (Bl b) L Rh s=true) {A:List Ty}{cs:List Dy} (hcs:Adi L Rh s s E.h.keep=some cs) {x0:(BT A).T} (hx0':ofX A x0=cs)
  (h:(Ap (λx=>CH H E b (BB true (Bl b) L Rh s (ofX A x)) (Wa L Rh s E.h.keep A K)) x0).bind (AaN b L Rh s A K)=some z)
  (hQ:∀e s' W w',Kp (Au (Bl b)) s s'->AN C E.h.n s'.den W w'->K e s'=some z->Q e W w'):(Code.loop b).wp P Q a w:=by
 obtain⟨hd0,hdd0,D0,ρ0,F0,hcr0⟩:=id hs;have hml:C.m<=s.r.length:=by have:=hcr0.ml;simpa [St.den]using this
 let body:(BT A).T->Option (LO (BT A).T R):=λx=>CH H E b (BB true (Bl b) L Rh s (ofX A x)) (Wa L Rh s E.h.keep A K)
 have h:(Ap body x0).bind (AaN b L Rh s A K)=some z:=h;cases hl:Ap body x0 with
 |none=>rw[hl]at h;cases h
 |some o0=>
  rw[hl]at h;have h:AaN b L Rh s A K o0=some z:=h;obtain⟨n0,hn0⟩:=C0.1 hl
  have h0:AN C E.h.n (BB true (Bl b) L Rh s (ofX A x0)).den a w:=by
   rw[hx0'];exact QC hs hcs F hml (λ_ _ _ _=>rfl) (λ_ _ _=>⟨rfl,rfl⟩) λ_ _ _ _=>rfl
  let I':Act->World->Prop:=λa w=>∃x n o,C9 body x o n/\AaN b L Rh s A K o=some z/\AN C E.h.n (BB true (Bl b) L Rh s (ofX A x)).den a w
  have hmin:∀(a:Act) (w:World),∃k,I' a w->(∃x n o,C9 body x o n/\AaN b L Rh s A K o=some z/\AN C E.h.n (BB true (Bl b) L Rh s (ofX A x)).den a w/\n=k)/\∀x n o,C9 body x o n->AaN b L Rh s A K o=some z->AN C E.h.n (BB true (Bl b) L Rh s (ofX A x)).den a w->k<=n:=by
   intro a w;by_cases hI:I' a w
   .obtain⟨x,n,o,g1,g2,g3⟩:=hI
    obtain⟨k,hk,hlt⟩:=Wd (p:=λk=>∃x n o,C9 body x o n/\AaN b L Rh s A K o=some z/\AN C E.h.n (BB true (Bl b) L Rh s (ofX A x)).den a w/\n=k) ⟨n,x,n,o,g1,g2,g3,rfl⟩
    exact⟨k,λ_=>⟨hk,λx n o g1 g2 g3=>Nat.le_of_not_lt λhl=>hlt n hl ⟨x,n,o,g1,g2,g3,rfl⟩⟩⟩
   .exact⟨0,λh=>absurd h hI⟩
  let μ':Act->World->Nat:=λa w=>Classical.choose (hmin a w)
  have hμ':=λa w hI=>Classical.choose_spec (hmin a w) hI
  refine wp_loop I' μ' ⟨x0,n0,o0,hn0,h,h0⟩ λa w hI=>?_
  obtain⟨⟨x,n,o,g1,g2,g3,hn⟩,_⟩:=hμ' a w hI;have hn:n=μ' a w:=hn
  -- the round's own answer
  have Z:∃lo,body x=some lo/\((∃y n',lo=.next y/\C9 body y o n'/\n=n'+1)\/(lo=o)):=by
   cases g1 with
   |brk h'=>exact⟨_,h',.inr rfl⟩
   |ret h'=>exact⟨_,h',.inr rfl⟩
   |step h' h2=>exact⟨_,h',.inl ⟨_,_,rfl,h2,rfl⟩⟩
  obtain⟨lo,hlo,J⟩:=Z;refine ih _ _ lo _ a w g3 hlo λe s' W w' hk hs' B=>?_
  obtain⟨f1,f2,f3⟩:=Wk hk;have hk0:Kp (Au (Bl b)) s s':=Kp.trans (YH hok) hk (λ_ h=>h) λ_ h=>h
  cases e with
  |normal=>
   unfold Wa at B;simp only at B;split at B
   case h_2=>cases B
   rename_i cs2 U;split at B
   case h_2=>cases B
   rename_i x2 hx2;cases B;rcases J with⟨y,n',O,hl2,hnn⟩|O
   .cases O
    have Y:AN C E.h.n (BB true (Bl b) L Rh s (ofX A x2)).den W w':=by
     rw[ZG _ _ _ hx2];exact QC hs' U F hml f1 f2 f3
    have hI2:I' W w':=⟨x2,n',o,hl2,g2,Y⟩;refine⟨hI2,?_⟩;have:=(hμ' W w' hI2).2 x2 n' o hl2 g2 Y;have:μ' W w'<=n':=this;omega
   .subst O
    cases g2
  |exit id=>
   unfold Wa at B;simp only at B;split at B
   case h_2=>cases B
   rename_i cs2 U;split at B
   case h_2=>cases B
   rename_i x2 hx2;cases B;rcases J with⟨y,n',O,_⟩|O
   .cases O
   .subst O
    have g2:brkK K (Pf b).eraseDups id (BB false (Bl b) L Rh s (ofX A x2))=some z:=g2
    have Y:AN C E.h.n (BB false (Bl b) L Rh s (ofX A x2)).den W w':=by
     rw[ZG _ _ _ hx2];exact QC hs' U F hml f1 f2 f3
    exact hQ _ _ _ _ (YH hok) Y (Pv _ _ g2)
  |ret=>
   have B:(K .ret s').map LO.ret=some lo:=B;cases hkr:K .ret s' with
   |none=>rw[hkr]at B;cases B
   |some r=>
    rw[hkr]at B;cases B;rcases J with⟨y,n',O,_⟩|O
    .cases O
    .subst O
     cases g2;exact hQ _ _ _ _ hk0 hs' hkr
  |goto l=>cases B
  |panic ch=>cases B
  |outgrown=>cases B
def NM(P:Program)(E:I0)(C:Ctx)(H:Code->{R:Type}->St->(Exit->St->Option R)->Option R):Prop:=
 ∀(c:Code) {R:Type} (s:St) (K:Exit->St->Option R) (z:R) (Q:Exit->Act->World->Prop) (a:Act) (w:World),AN C E.h.n s.den a w->H c s K=some z->
  (∀e s' A w',Kp (Au (Bl c)) s s'->AN C E.h.n s'.den A w'->K e s'=some z->Q e A w')->(Code.scope c).wp P Q a w
theorem W4{H:Code->{R:Type}->St->(Exit->St->Option R)->Option R}(hE:EOK P E.toEnv)(hm:P.follows .mixedOrders=true)(hkeep:C.m<=E.h.keep)(hH:NM P E C H):∀(c:Code) {R:Type} (s:St) (K:Exit->St->Option R) (z:R) (Q:Exit->Act->World->Prop) (a:Act) (w:World),AN C E.h.n s.den a w->CH H E c s K=some z->
  (∀e s' W w',Kp (Au (Bl c)) s s'->AN C E.h.n s'.den W w'->K e s'=some z->Q e W w')->c.wp P Q a w:=by
 intro c
 induction c with
 |skip=>intro R s K z Q a w J h A;exact wp_skip (A _ _ _ _ (Kp.refl _ _) J h)
 |region id ops draw=>
  intro R s K z Q a w J h A;cases draw with
  |false=>
   have h:tops E.toEnv ops (Zr ops.size ops.toList) s (K .normal)=some z:=h;refine wp_region_list ?_;have:=W1 hE (ops:=ops) (Q:=Q) _ s a w J h λs' W w' U B O=>A .normal s' W w' (by rw[Ck]at U;exact U) B O
   rw[Ck]at this;exact this
  |true=>exact ZK hE hm J h λs' W w' U B O=>A .normal s' W w' U B O
 |seq x y ihx ihy=>
  intro R s K z Q a w J h A
  have Y:∀i,Au (Bl (.seq x y)) i=true->Au (Bl x) i=true/\Au (Bl y) i=true:=λi hi=>by
   have hi:Au (Bl x++Bl y) i=true:=hi;rw[Kg,bAE]at hi;exact hi
  refine wp_seq (ihx s _ z _ a w J h λe s' W w' U B O=>?_)
  have hk':Kp (Au (Bl (.seq x y))) s s':=U.weak λi hi=>(Y i hi).1
  cases e with
  |normal=>exact ihy s' K z Q W w' B O λe2 s2 a2 w2 hk2 hs2 hz2=>A e2 s2 a2 w2 (U.trans hk2 (λi hi=>(Y i hi).1) λi hi=>(Y i hi).2) hs2 hz2
  |exit id=>exact A _ _ _ _ hk' B O
  |ret=>exact A _ _ _ _ hk' B O
  |goto l=>exact A _ _ _ _ hk' B O
  |panic ch=>cases O
  |outgrown=>cases O
 |cond c x y ihx ihy=>
  intro R s K z Q a w J h A
  have Y:∀i,Au (Bl (.cond c x y)) i=true->Au (Bl x) i=true/\Au (Bl y) i=true:=λi hi=>by
   have hi:Au (Bl x++Bl y) i=true:=hi;rw[Kg,bAE]at hi;exact hi
  have h:(match s.ev c with
   |some (.one (.c .bool _ b))=>bif b then CH H E x s K else CH H E y s K
   |_=>none)=some z:=h
  split at h
  .rename_i d b hb
   obtain⟨hdd,D,ρ,F,hcr⟩:=J.2;have h1:=Bq hcr hdd c;rw[Bd hb]at h1;refine wp_cond (t:=b) h1.1 ?_;cases b with
   |true=>exact ihx s K z Q a w J h λe s' W w' U=>A e s' W w' (U.weak λi hi=>(Y i hi).1)
   |false=>exact ihy s K z Q a w J h λe s' W w' U=>A e s' W w' (U.weak λi hi=>(Y i hi).2)
  .cases h
 |block id b ih=>
  intro R s K z Q a w J h A;refine wp_block (ih s _ z _ a w J h λe s' W w' U B O=>?_)
  cases e with
  |exit id'=>
   simp only[Exit.inBlock];have O:(bif beq id' id then K .normal s' else K (.exit id') s')=some z:=O;by_cases he:id'=id
   .subst he
    rw[beq_refl]at O;rw[if_pos rfl];exact A _ _ _ _ U B O
   .rw[BK he]at O
    rw[if_neg he];exact A _ _ _ _ U B O
  |normal=>exact A _ _ _ _ U B O
  |ret=>exact A _ _ _ _ U B O
  |goto l=>exact A _ _ _ _ U B O
  |panic ch=>cases O
  |outgrown=>cases O
 |loop b ih=>
  intro R s0 K z Q a w J h A;unfold CH at h;obtain⟨s,hso⟩:∃s,s=M5 (ozOf E.dn (BX b)) s0:=⟨_,rfl⟩;rw[<-hso]at h;obtain⟨Z,hkp⟩:=H2 (ozOf E.dn (BX b)) s0;rw[<-hso]at Z hkp;rw[<-Z]at J;have A:∀e s' W w',Kp (Au (Bl (.loop b))) s s'->AN C E.h.n s'.den W w'->K e s'=some z->Q e W w':=λe s' W w' U=>A e s' W w' ((hkp _).trans U (λ_ h=>h) λ_ h=>h)
  have h:(match Aad s E.lp (BX b)with
   |(L,Rh)=>bif OV (Bl b) L Rh s then(match Adi L Rh s s E.h.keep with
    |some cs=>match toX (cs.map (·.t)) cs with
     |some x=>II (Ap (λx=>CH H E b (BB true (Bl b) L Rh s (ofX (cs.map (·.t)) x)) (Wa L Rh s E.h.keep (cs.map (·.t)) K)) x) (AaN b L Rh s (cs.map (·.t)) K)
     |none=>none
    |none=>none)else none)=some z:=h
  split at h
  rename_i L Rh hlp;obtain⟨hok,h⟩:=A1 h;split at h
  case h_2=>cases h
  rename_i cs hcs;split at h
  case h_2=>cases h
  rename_i x0 hx0;have hx0':=ZG _ _ _ hx0;exact AcW hkeep ih J hok hcs hx0' h A
 |exit id=>intro R s K z Q a w J h A;exact wp_exit (A _ _ _ _ (Kp.refl _ _) J h)
 |label l=>intro R s K z Q a w J h A;exact wp_label (A _ _ _ _ (Kp.refl _ _) J h)
 |ret=>intro R s K z Q a w J h A;exact wp_ret (A _ _ _ _ (Kp.refl _ _) J h)
 |goto l=>intro R s K z Q a w J h A;exact wp_goto (A _ _ _ _ (Kp.refl _ _) J h)
 |rangeFunc f ps x y _ _=>intro R s K z Q a w J h A;cases h
 |scope c _=>intro R s K z Q a w J h A;exact hH c s K z Q a w J h A
 |refuse s=>intro R s K z Q a w J h A;cases h
theorem NM.none{P:Program}{E:I0}{C:Ctx}:NM P E C (λ_ _ _ _=>.none):=λ_ _ _ _ _ _ _ _ _ h=>by grind
def Mw(O:EOK P E.toEnv)(H:P.follows .mixedOrders=true)(A:C.m<=E.h.keep)(c:Code)(s:St)(K:Exit->St->Option R)(z:R)(Q:Exit->Act->World->Prop)(a:Act)(w:World)(F:AN C E.h.n s.den a w)(h:ZJ E c s K=some z)
  (J:∀e s' B w',Kp (Au (Bl c)) s s'->AN C E.h.n s'.den B w'->K e s'=some z->Q e B w'):c.wp P Q a w:=
 W4 O H A NM.none c s K z Q a w F h J
end Go.Ve


namespace Go.Ve
variable{P:Program}{s:St}
def divP:AG->AG->Bool
 |(_,k)::p,(_,l)::q=>!beq k l||divP p q
 |_,_=>false
theorem U6{x:V}:∀{p q:AG} (_:divP p q=true) (v:V),sub q (upd p v x)=sub q v/\AR p q=false
 |(i,k)::p,(j,l)::q,h0,v=>by
  have h:(!beq k l||divP p q)=true:=h0;by_cases e:k=l
  .subst e
   rw[beq_refl,Bool.not_true,Bool.false_or]at h;refine⟨?_,?_⟩
   .cases v with
    |nd s o sz n f=>
     show sub q (if j=i/\k=k then upd p (f i k) x else f j k)=sub q (f j k)
     by_cases A:j=i
     .subst A
      rw[if_pos ⟨rfl,rfl⟩];exact(U6 h (f j k)).1
     grind
    |_=>rfl
   .show(i==j&&k==k&&AR p q)=false
    rw[(U6 (x:=x) h v).2,Bool.and_false]
  .refine⟨?_,?_⟩
   .cases v with
    |nd s o sz n f=>
     show sub q (if j=i/\l=k then upd p (f i k) x else f j l)=sub q (f j l)
     grind
    |_=>rfl
   .show(i==j&&k==l&&AR p q)=false
    grind
 |[],_,h,_=>by cases h
 |_::_,[],h,_=>by cases h
def C3:List Cl->List (Nat×AG)
 |[]=>[]
 |.rf id p::l=>(id,p)::C3 l
 |_::l=>C3 l
def U5(a b:Nat×AG):Bool:=!beq a.1 b.1||divP a.2 b.2
def Po:List (Nat×AG)->Bool
 |[]=>true
 |a::l=>l.all (U5 a)&&Po l
def Acd(r:List Ab):Cl->Option Cl
 |.c t d x=>some (.c t d x)
 |.nil=>some .nil
 |.nilp=>some .nilp
 |.rf id p=>match Ac r id p with
  |.arr _ t d xs=>some (.c (.sl t) (d+1) xs)
  |_=>none
 |_=>none
def NZ(r:List Ab):List Cl->Option (List Cl)
 |[]=>some []
 |y::l=>match Acd r y with
  |some z=>match NZ r l with
   |some m=>some (z::m)
   |none=>none
  |none=>none
def UK{id:Nat}{q:AG}:∀{l:List Cl},Cl.rf id q∈l->(id,q)∈C3 l
 |[],h=>by grind
 |z::l,h=>by
  rcases mem_cons.1 h with h|h
  .subst h;exact List.mem_cons_self ..
  .have:=UK h
   cases z<;>first|trivial|exact mCM _ this
def HO{r:List Ab}{y:Cl}:∀{l l1:List Cl},NZ r l=some l1->y∈l->∃z,Acd r y=some z
 |[],_,_,h=>by grind
 |z::l,l1,hl,h=>by
  unfold NZ at hl;split at hl
  case h_2=>grind
  split at hl
  case h_2=>grind
  rename_i l2 e;rcases mem_cons.1 h with h|h
  .grind
  .exact HO e h
def Ab8{m id:Nat}{p:AG}{n:Nat}{e σ:List V}:tkL (m+1) (V.rs id p 0 n::e) σ=(match sub p (σ.getD id .dead)with
   |.nd true true sz A f=>if 0=0/\n=A then .nd true true sz A f::tkL m (e.map λv=>AI σ.length [] (rrV id p σ.length v)) (σ.set id (upd p (σ.getD id .dead) .dead)++[.dead])else .dead::tkL m e σ
   |_=>.dead::tkL m e σ):=rfl
theorem tkL_v(r:List Ab):∀(l l':List Cl) (m:Nat) (σ:List V),l.length<=m->l.all Cl.plain=true->NZ r l=some l'->Po (C3 l)=true->
  (∀id p,(id,p)∈C3 l->sub p (σ.getD id .dead)=(Ac r id p).v/\id<σ.length)->tkL m (l.map (Cl.v r)) σ=l'.map Cl.v0:=by
 intro l
 induction l with
 |nil=>intro l' m σ _ _ h _ _;cases h;cases m<;>rfl
 |cons y l ih=>
  intro l' m σ hm hp h hd J;cases m with
  |zero=>simp at hm
  |succ m=>
   simp only[List.length_cons]at hm;rw[all_cons,bAE]at hp;unfold NZ at h;split at h
   case h_2=>cases h
   rename_i z A;split at h
   case h_2=>cases h
   rename_i l1 H;cases h
   have plainly:∀v:V,y.v r=v->v=z.v0->C3 (y::l)=C3 l->(∀vs,tkL (m+1) (v::vs) σ=v::tkL m vs σ)->tkL (m+1) ((y::l).map (Cl.v r)) σ=(z::l1).map Cl.v0:=by
    intro v hv hvz W htk;rw[map_cons,map_cons,hv,htk,<-hvz]
    congr 1
    exact ih l1 m σ (by omega) hp.2 H (by rw[W]at hd;exact hd) λid p hm=>J id p (by rw[W];exact hm)
   cases y with
   |c t d x=>
    cases A;cases t<;>first|exact plainly _ rfl rfl rfl (λ_=>rfl)|cases hp.1
   |nil=>cases A;exact plainly _ rfl rfl rfl λ_=>rfl
   |nilp=>cases A;exact plainly _ rfl rfl rfl λ_=>rfl
   |nilf=>cases A
   |nilm=>cases A
   |rf id p=>
    unfold Acd at A;simp only at A;split at A
    case h_2=>cases A
    rename_i ro t d xs hn;cases A;have O:((C3 l).all (U5 (id,p))&&Po (C3 l))=true:=hd;rw[bAE]at O;obtain⟨hs,hid⟩:=J id p (List.mem_cons_self ..);rw[hn]at hs;have hs:sub p (σ.getD id .dead)=.nd true true t.w xs.length λi k=>(tyV t d (xs.getD i t.dflt)).getD k .dead:=hs
    rw[map_cons];show tkL (m+1) (V.rs id p 0 (Ac r id p).len::l.map (Cl.v r)) σ=_;rw[hn];show tkL (m+1) (V.rs id p 0 xs.length::l.map (Cl.v r)) σ=_
    have e:tkL (m+1) (V.rs id p 0 xs.length::l.map (Cl.v r)) σ=(V.nd true true t.w xs.length λi k=>(tyV t d (xs.getD i t.dflt)).getD k .dead)::
      tkL m ((l.map (Cl.v r)).map λv=>AI σ.length [] (rrV id p σ.length v)) (σ.set id (upd p (σ.getD id .dead) .dead)++[.dead]):=by
     rw[Ab8,hs];exact if_pos ⟨rfl,rfl⟩
    rw[e,map_cons]
    congr 1
    -- the rest is as it was
    have U:(l.map (Cl.v r)).map (λv=>AI σ.length [] (rrV id p σ.length v))=l.map (Cl.v r):=by
     rw[map_map];refine List.map_congr_left λy hy=>?_
     show AI σ.length [] (rrV id p σ.length (y.v r))=y.v r;cases y with
     |c t d x=>cases t<;>first|rfl|exact(congrArg (AI σ.length []) ((Dc id p σ.length).osl (d:=d))).trans ((Ba σ.length []).osl (d:=d))|exact(congrArg (AI σ.length []) ((Dc id p σ.length).clo (d:=d))).trans ((Ba σ.length []).clo (d:=d))
     |dead=>rfl
     |nil=>rfl
     |nilp=>rfl
     |nilf=>rfl
     |nilm=>rfl
     |rf id' q=>
      have B:(id',q)∈C3 l:=UK hy;have F:=aET.1 O.1 _ B;have Y:=(J id' q (mCM _ B)).2
      have hn1:¬ (id'=id/\AR p q=true):=by
       rintro ⟨h1,h2⟩
       unfold U5 at F;simp only[h1,beq_refl,Bool.not_true,Bool.false_or]at F;rw[(U6 (x:=.dead) F .dead).2]at h2;cases h2
      show AI σ.length [] (rrV id p σ.length (.rs id' q 0 (Ac r id' q).len))=_;simp only[rrV,if_neg hn1,AI];rw[if_neg (by rintro ⟨h,_⟩;omega)]
      rfl
     |rs id' q a b=>obtain⟨z,A⟩:=HO H hy;cases A
     |rp id' q a b=>obtain⟨z,A⟩:=HO H hy;cases A
     |rm id' q=>obtain⟨z,A⟩:=HO H hy;cases A
    rw[U];refine ih l1 m _ (by omega) hp.2 H O.2 λid' q B=>?_
    obtain⟨h1,h2⟩:=J id' q (mCM _ B);have F:=aET.1 O.1 _ B;refine⟨?_,by simp;omega⟩
    have Y:id'<(σ.set id (upd p (σ.getD id .dead) .dead)).length:=by simpa using h2
    rw[AB Y];by_cases Z:id=id'
    .subst Z
     rw[Ae hid,<-h1];unfold U5 at F;simp only[beq_refl,Bool.not_true,Bool.false_or]at F;exact(U6 F _).1
    .rw[Ad Z,h1]
   |dead=>cases A
   |rs=>cases A
   |rp=>cases A
   |rm=>cases A
def Acc(r:List Ab):List Cl->Option (List Cl)
 |[.rp id [] 0 0]=>match r.getD id .dead with
  |.obj false l=>match DH l with
   |some ⟨t,x⟩=>bif l.any Cl.own then none else some [.c (.ptr t) 1 x]
   |none=>none
  |_=>none
 |[.rm id []]=>match r.getD id .dead with
  |.mp false kt e x=>some [.c (.mp kt e) 1 x]
  |_=>none
 |l=>NZ r l
theorem Acb{l m:List Cl}(e:Acc s.r l=some m)(h3:l.all Cl.plain=true)(hd:Po (C3 l)=true):tkL (l.map (Cl.v s.r)).length (l.map (Cl.v s.r)) s.den.σ=m.map Cl.v0:=by
 unfold Acc at e;split at e
 .rename_i id
  split at e
  case h_2=>cases e
  rename_i l W;split at e
  case h_2=>cases e
  rename_i t x hf;cases Z:l.any Cl.own with
  |true=>rw[Z]at e;cases e
  |false=>
  rw[Z]at e;cases e;have e1:=Hc _ _ hf
  have e2:(l.map Cl.v0).map frz=l.map Cl.v0:=by
   rw[map_map];refine List.map_congr_left λc hc=>AaG ?_
   have:=List.any_eq_false.1 Z c hc;simpa using this
  have e3:tyV t 0 x=l.map Cl.v0:=e1.trans e2
  have B:s.den.σ.getD id .dead=A8 true (l.map Cl.v0):=by
   show(s.r.map Ab.v).getD id .dead=_;rw[Ak,W];rfl
  show(match sub [] (s.den.σ.getD id .dead)with
   |.nd false true sz n f=>if 0=0/\0=0 then V.nd false true sz n f::[]else [.dead]
   |_=>[.dead])=[A8 (decide (0<1)) (tyV t 0 x)]
  rw[B,e3];rfl
 .rename_i id
  split at e
  case h_2=>cases e
  rename_i kt vt x W;cases e;have B:s.den.σ.getD id .dead=mpV true kt vt x:=by
   show(s.r.map Ab.v).getD id .dead=_;rw[Ak,W];rfl
  show(match sub [] (s.den.σ.getD id .dead)with
   |.mp true l=>V.mp true l::[]
   |_=>[.dead])=[mpV (decide (0<1)) kt vt x]
  rw[B];rfl
 .have Y:∀id p,(id,p)∈C3 l->Ac s.r id p≠.dead:=by
   intro id p
   have key:∀(l U:List Cl),NZ s.r l=some U->(id,p)∈C3 l->Ac s.r id p≠.dead:=by
    intro l
    induction l with
    |nil=>intro U _ h;cases h
    |cons y l ih=>
     intro U O e;unfold NZ at O;split at O
     case h_2=>cases O
     rename_i z1 A;split at O
     case h_2=>cases O
     rename_i l2 J;cases y with
     |rf id' q=>
      rcases mem_cons.1 e with h|h
      .cases h
       intro hx
       have A:(match Ac s.r id p with
        |.arr _ t d xs=>some (Cl.c (.sl t) (d+1) xs)
        |_=>none)=some z1:=A
       rw[hx]at A;cases A
      .exact ih l2 J h
     |_=>exact ih l2 J e
   exact key _ _ e
  refine tkL_v s.r l m (l.map (Cl.v s.r)).length s.den.σ (by simp) h3 e hd λid p H=>?_
  have F:=Y id p H;refine⟨AS F,?_⟩;show id<(s.r.map Ab.v).length;rw[length_map];rcases Nat.lt_or_ge id s.r.length with h|h
  .exact h
  .exfalso
   apply F;unfold Ac;rw[gDE,List.getElem?_eq_none h];exact CT p
def retV1(Θ:Tab)(s:St):ResultVar->Option Sl
 |.tmp t=>some (s.t t)
 |.cell a t=>match Xh s (Θ.look t) (s.ev (.tmp a))with
  |some (.ok y)=>some y
  |_=>none
def Z3(Θ:Tab)(s:St):List ResultVar->Option (List Sl)
 |[]=>some []
 |v::l=>match retV1 Θ s v with
  |some y=>match Z3 Θ s l with
   |some m=>some (y::m)
   |none=>none
  |none=>none
def cellsOf:List Sl->Option (List (Bool×List Cl))
 |[]=>some []
 |y::l=>match y with
  |.one c=>match(Sl.one c).cells,cellsOf l with
   |some m,some n=>some ((false,m)::n)
   |_,_=>none
  |.agg c=>match(Sl.agg c).cells,cellsOf l with
   |some m,some n=>some ((true,m)::n)
   |_,_=>none
  |_=>none
def LM(b:Bool)(p:Bool×Nat×Ty)(l:List Cl):Option p.2.2.T:=bif b|| !isP p then MZ p.2.2 p.2.1 l else match l with
 |[.nilp]=>some p.2.2.dflt
 |_=>none
def UC(b:Bool):(rs:List (Bool×Nat×Ty))->List (Bool×List Cl)->List Cl->Option (RT rs).T
 |[],[],[]=>some ()
 |[p],[q],l=>bif p.1==q.1&&(p.1||p.2.2.one)&&beq l.length q.2.length then LM b p l else none
 |p::A::rs,q::e::qs,l=>bif p.1==q.1&&(p.1||p.2.2.one)&&ble q.2.length l.length then(match LM b p (l.take q.2.length)with
  |some x=>match UC b (A::rs) (e::qs) (l.drop q.2.length)with
   |some z=>some (x,z)
   |none=>none
  |none=>none)else none
 |_,_,_=>none
def retS(b:Bool)(Θ:Tab)(e:List ResultVar)(rs:List (Bool×Nat×Ty))(s:St):Option (RT rs).T:=match Z3 Θ s e with
 |some ys=>match cellsOf ys with
  |some ls=>match Acc s.r (ls.flatMap (·.2))with
   |some m=>bif Po (C3 (ls.flatMap (·.2)))then UC b rs ls m else none
   |none=>none
  |none=>none
 |none=>none
def retK(Θ:Tab)(e:List ResultVar)(rs:List (Bool×Nat×Ty)):Exit->St->Option (RT rs).T
 |.normal,s=>retS true Θ e rs s
 |.ret,s=>retS true Θ e rs s
 |_,_=>none
def pS(b:Bool)(t:Ty)(x:t.T):Sl:=bif b then .agg (Aq t 0 x)else .one (.c t 0 x)
def argS:(l:List (Bool×Ty))->(PT l).T->List Sl
 |[],_=>[]
 |[p],x=>[pS p.1 p.2 x]
 |p::q::l,x=>pS p.1 p.2 x.1::argS (q::l) x.2
def P3(l:List (Bool×Ty))(x:(PT l).T):St:=⟨λi=>(argS l x).getD i (.one .dead),[]⟩
noncomputable def tfun(E:I0)(body:Code)(e:List ResultVar)(S:Sig)(x:(PT S.ps).T):Option (RT S.rs).T:=ZJ E body (P3 S.ps x) (retK E.Θ e S.rs)
theorem Ps{s:St}:∀(ys:List Sl) (ls:List (Bool×List Cl)),cellsOf ys=some ls->(ys.map (Sl.v s.r)).all Bv=true/\(ys.map (Sl.v s.r)).flatMap Go.Ve.cellsV=(ls.flatMap (·.2)).map (Cl.v s.r)/\(ls.flatMap (·.2)).all Cl.plain=true/\ls.length=ys.length
 |[],ls,h=>by cases h;exact⟨rfl,rfl,rfl,rfl⟩
 |y::ys,ls,h=>by
  have go:∀(b:Bool) (m:List Cl) (n:List (Bool×List Cl)),y.cells=some m->cellsOf ys=some n->ls=(b,m)::n->((y::ys).map (Sl.v s.r)).all Bv=true/\((y::ys).map (Sl.v s.r)).flatMap Go.Ve.cellsV=(ls.flatMap (·.2)).map (Cl.v s.r)/\(ls.flatMap (·.2)).all Cl.plain=true/\ls.length=(y::ys).length:=by
   intro b m n B A e;subst e;obtain⟨H,U,F⟩:=CW (r:=s.r) B;obtain⟨g1,g2,O,J⟩:=Ps ys n A;refine⟨by rw[map_cons,all_cons,H,g1];rfl,?_,?_,by simp[J]⟩
   .grind
   .rw[List.flatMap_cons,List.all_append,F,O];rfl
  unfold cellsOf at h;split at h
  .split at h
   .rename_i m n B A
    cases h;exact go _ _ _ B A rfl
   .cases h
  .split at h
   .rename_i m n B A
    cases h;exact go _ _ _ B A rfl
   .cases h
  .cases h
theorem He{s:St}:∀(ys:List Sl) (ls:List (Bool×List Cl)),cellsOf ys=some ls->∀k,k<ls.length->((ls.getD k (false,[])).1=true/\(∃l,(ys.getD k (.one .dead)).v s.r=Ag l/\l.length=(ls.getD k (false,[])).2.length))\/((ls.getD k (false,[])).1=false/\(∀t n f,(ys.getD k (.one .dead)).v s.r≠.many t n f)/\(ls.getD k (false,[])).2.length=1)
 |[],ls,h,k,hk=>by cases h;simp at hk
 |y::ys,ls,h,k,hk=>by
  unfold cellsOf at h;split at h
  .rename_i c
   split at h
   .rename_i m n e B
    cases h;cases k with
    |zero=>
     right;refine⟨rfl,?_,?_⟩
     .have e:(bif c.plain then some [c]else none)=some m:=e
      cases A:c.plain with
      |false=>rw[A]at e;cases e
      |true=>
       show ∀t n f,c.v s.r≠.many t n f;cases c with
       |c t d x=>cases t<;>first|(cases A;done)|(intro _ _ _ h;cases h)
       |_=>intro _ _ _ h;cases h
     .have e:(bif c.plain then some [c]else none)=some m:=e
      cases A:c.plain with
      |false=>rw[A]at e;cases e
      |true=>rw[A]at e;cases e;rfl
    |succ k=>exact He ys n B k (by simpa using hk)
   .cases h
  .rename_i c
   split at h
   .rename_i m n e B
    cases h;cases k with
    |zero=>
     left;refine⟨rfl,c.map (Cl.v s.r),rfl,?_⟩;have e:(bif c.all Cl.plain then some c else none)=some m:=e;cases A:c.all Cl.plain with
     |false=>rw[A]at e;cases e
     |true=>rw[A]at e;cases e;simp
    |succ k=>exact He ys n B k (by simpa using hk)
   .cases h
  .cases h
def Aah(b:Bool):∀(rs:List (Bool×Nat×Ty)) (ls:List (Bool×List Cl)) (l:List Cl) (z:(RT rs).T) (B:List V),UC b rs ls l=some z->B.length=ls.length->
  (∀k,k<ls.length->((ls.getD k (false,[])).1=true/\(∃m,B.getD k .dead=Ag m/\m.length=(ls.getD k (false,[])).2.length))\/((ls.getD k (false,[])).1=false/\(∀t n f,B.getD k .dead≠.many t n f)/\(ls.getD k (false,[])).2.length=1))->
  CY (Bj B (l.map Cl.v0)) (VK b rs z):=by
 -- one result
 have one:∀(p:Bool×Nat×Ty) (q:Bool×List Cl) (l:List Cl) (x:p.2.2.T) (v:V) (U:List V) (rest:List V),p.1=q.1->(p.1=true\/p.2.2.one=true)->l.length=q.2.length->LM b p l=some x->
   ((q.1=true/\(∃m,v=Ag m/\m.length=q.2.length))\/(q.1=false/\(∀t n f,v≠.many t n f)/\q.2.length=1))->∃v',Bj (v::U) (l.map Cl.v0++rest)=v'::Bj U rest/\Sub v' (Zp b p x):=by
  intro p q l x v U rest h1 h2 A H O;unfold LM at H;unfold Zp;cases J:b|| !isP p with
  |false=>
   rw[J]at H;simp only[cond_false]at H;split at H
   case h_2=>cases H
   have hp1:p.1=false:=by
    rw[Bool.or_eq_false_iff,Bool.not_eq_false']at J;have:=J.2;unfold isP at this;rw[bAE,Bool.not_eq_true']at this;exact this.1
   rcases O with⟨W,_⟩|⟨_,hv,_⟩
   .rw[<-h1,hp1]at W;cases W
   .refine⟨.c (.pointer none),?_,Sub.refl _⟩
    show Bj (v::U) (.c (.pointer none)::rest)=_;cases v with
    |many t n f=>exact absurd rfl (hv _ _ _)
    |_=>rfl
  |true=>
  rw[J]at H;simp only[cond_true]at H⊢;obtain⟨g1,g2⟩:=Kb H [];rw[g2]at g1;rcases O with⟨W,m,rfl,hm⟩|⟨W,hv,Y⟩
  .refine⟨Ag (l.map Cl.v0),?_,?_⟩
   .show Ag ((l.map Cl.v0++rest).take m.length)::Bj U ((l.map Cl.v0++rest).drop m.length)=_
    have e:(l.map Cl.v0).length=m.length:=by rw[length_map,A,hm]
    rw[<-e,List.take_left,List.drop_left]
   .rw[h1,W];exact g1.mk
  .have hp:p.1=false:=by rw[h1,W]
   have ho:p.2.2.one=true:=by rcases h2 with h|h;rw[hp]at h;cases h;exact h
   rw[Bh ho]at g1
   match l,A with
   |[y],_=>
    refine⟨y.v0,?_,?_⟩
    .show Bj (v::U) (y.v0::rest)=_
     cases v with
     |many t n f=>exact absurd rfl (hv _ _ _)
     |_=>rfl
    .rw[hp];exact g1.1
   |[],A=>rw[Y]at A;cases A
   |_::_::_,A=>rw[Y]at A;simp at A
 intro rs
 induction rs with
 |nil=>
  intro ls l z B h A O;cases ls with
  |nil=>cases l with
   |nil=>cases B with
    |nil=>trivial
    |cons=>simp at A
   |cons=>cases h
  |cons=>cases h
 |cons p rs ih=>
  intro ls l z B h A O;cases rs with
  |nil=>
   cases ls with
   |nil=>cases h
   |cons q ls=>cases ls with
    |cons=>cases h
    |nil=>
     have h:(bif p.1==q.1&&(p.1||p.2.2.one)&&beq l.length q.2.length then LM b p l else none)=some z:=h;obtain⟨F,h⟩:=A1 h;simp only[bAE,beq_iff_eq,Bool.or_eq_true]at F;cases B with
     |nil=>simp at A
     |cons v B=>cases B with
      |cons=>simp at A
      |nil=>
       obtain⟨v',e,hs⟩:=one p q l z v [] [] F.1.1 F.1.2 (bqE F.2) h (O 0 (by simp))
       rw[List.append_nil]at e;rw[e];exact⟨hs,trivial⟩
  |cons p' rs=>
   cases ls with
   |nil=>cases h
   |cons q ls=>cases ls with
    |nil=>cases h
    |cons q' ls=>
     have h:(bif p.1==q.1&&(p.1||p.2.2.one)&&ble q.2.length l.length then(match LM b p (l.take q.2.length)with
      |some x=>match UC b (p'::rs) (q'::ls) (l.drop q.2.length)with
       |some z=>some (x,z)
       |none=>none
      |none=>none)else none:Option (RT (p::p'::rs)).T)=some z:=h
     cases F:(p.1==q.1&&(p.1||p.2.2.one)&&ble q.2.length l.length)with
     |false=>rw[F]at h;cases h
     |true=>
      rw[F]at h;simp only[bAE,beq_iff_eq,Bool.or_eq_true]at F;simp only[cond_true]at h;split at h
      case h_2=>cases h
      rename_i x H;split at h
      case h_2=>cases h
      rename_i z2 hz2;cases h;cases B with
      |nil=>simp at A
      |cons v B=>
       have Z:(l.take q.2.length).length=q.2.length:=by
        have:=blE F.2;rw[List.length_take];omega
       obtain⟨v',e,hs⟩:=one p q (l.take q.2.length) x v B ((l.drop q.2.length).map Cl.v0) F.1.1 F.1.2 Z H (O 0 (by simp))
       rw[<-List.map_append,List.take_append_drop]at e;rw[e];refine⟨hs,ih (q'::ls) (l.drop q.2.length) z2 B hz2 (by simpa using A) λk hk'=>?_⟩
       have:=O (k+1) (by simpa using hk')
       simpa using this
theorem XF{P:Program}{Θ:Tab}(F:Θ.OK P){s:St}{K:List V->Prop}:∀(B:List ResultVar) (ys:List Sl) (e:List V),Z3 Θ s B=some ys->K (e++ys.map (Sl.v s.r))->WH P s.den B e K
 |[],ys,e,h,hK=>by cases h;show K e;grind
 |v::B,ys,e,h,hK=>by
  unfold Z3 at h;split at h
  case h_2=>cases h
  rename_i y H;split at h
  case h_2=>cases h
  rename_i m O;cases h;have A:WH P s.den B (e++[y.v s.r]) K:=XF F B m _ O (by grind)
  cases v with
  |tmp t=>
   cases H;exact A
  |cell a t=>
   unfold retV1 at H;simp at H;split at H
   .rename_i W U
    cases H;exact LA (Ua F U trivial) λr0 J=>by rw[J];exact A
   grind
theorem XG{Θ:Tab}(H:Θ.OK P){F:List ResultVar}{rs:List (Bool×Nat×Ty)}{b:Bool}{z:(RT rs).T}(h:retS b Θ F rs s=some z):WH P s.den F [] (Zj s.den.σ (J1 b rs z)):=by
 unfold retS at h;split at h
 case h_2=>cases h
 rename_i ys J;split at h
 case h_2=>cases h
 rename_i ls B;split at h
 case h_2=>cases h
 rename_i m W;obtain⟨hd,h⟩:=A1 h;refine XF H F ys [] J ?_;rw[List.nil_append];obtain⟨h1,h2,h3,Z⟩:=Ps (s:=s) ys ls B;refine⟨h1,?_⟩;rw[h2];have O:=Acb W h3 hd
 .rw[O]
  have A:=Aah b rs ls m z (ys.map (Sl.v s.r)) h (by rw[length_map,Z]) λk Y=>?_
  .-- LJ
   have U:∀{a b:List V},CY a b->Sub (OP a) (OP b):=by
    intro a b e
    match a,b,e with
    |[],[],_=>exact Sub.refl _
    |[x],[y],e=>exact e.1
    |x::x'::a,y::y'::b,e=>
     show Sub (Dq _) (Dq _);unfold Dq;rw[e.len];exact⟨_,rfl,λk _=>e.getD k⟩
    |[],_::_,e=>exact e.elim
    |_::_,[],e=>exact e.elim
    |[_],_::_::_,e=>exact e.2.elim
    |_::_::_,[_],e=>exact e.2.elim
   exact U A
  .have:=He (s:=s) ys ls B k Y
   simp_all
def pS_v(b:Bool)(t:Ty)(x:t.T):(pS b t x).v []=vOf b t 0 x:=by
 cases b with
 |true=>show Ag ((Aq t 0 x).map (Cl.v []))=_;rw[Cl.v_c];rfl
 |false=>rfl
def AbX:∀(l:List (Bool×Ty)) (x:(PT l).T),(argS l x).map (Sl.v [])=CX l x
 |[],x=>rfl
 |[p],x=>congrArg (λv=>[v]) (pS_v p.1 p.2 x)
 |p::q::l,x=>by
  show(pS p.1 p.2 x.1).v []::(argS (q::l) x.2).map (Sl.v [])=vOf p.1 p.2 0 x.1::CX (q::l) x.2;rw[AbX (q::l) x.2,pS_v]
def Px:∀(l:List (Bool×Ty)) (x:(PT l).T),(CX l x).length=l.length
 |[],_=>rfl
 |[_],_=>rfl
 |_::q::l,x=>by show(CX (q::l) x.2).length+1=_;rw[Px];rfl
theorem Aba{E:I0}{f:FuncId}{fn:Func}{body:Code}{S:Sig}(H:EOK P E.toEnv)(W:P.follows .mixedOrders=true)(Y:P.funcs[f]? =some fn)(Z:fn.body=some body)(hn:max S.ps.length fn.ntmps=E.h.n):
  FT P f S (tfun E body fn.results.toList S):=by
 intro x y B;refine FC_of Y Z (by rw[Px];omega) λ_ C a w Q hCm O F=>?_
 have e:(P3 S.ps x).den=⟨λi=>(CX S.ps x).getD i .dead,[]⟩:=by
  show Ms.mk (λi=>((argS S.ps x).getD i (.one .dead)).v []) []=_
  congr 1
  funext i
  rw[<-AbX S.ps x,Az (a:=.one .dead) rfl]
 rw[<-e]at O;rw[<-Hz]at F;refine Mw H W (by omega) body (P3 S.ps x) _ y Q a w O B λe s' U w' _ A J=>?_
 cases e with
 |normal=>exact F .normal s'.den U w' (XG H.Θ J) A
 |ret=>exact F .ret s'.den U w' (XG H.Θ J) A
 |exit id=>trivial
 |goto l=>trivial
 |panic ch=>trivial
 |outgrown=>trivial
end Go.Ve


namespace Go.Ve
variable{P:Program}
noncomputable def tfn(E:I0)(fn:Func)(S:Sig)(x:(PT S.ps).T):Option (RT S.rs).T:=match fn.body with
 |some b=>tfun E b fn.results.toList S x
 |none=>none
theorem WC{E:I0}{f:FuncId}{fn:Func}{S:Sig}(B:Tab.OK P E.Θ)(F:Io P E.Γ)(hW:∀e∈E.W,e.OK P)(hN:∀e∈E.N,e.OK P)(O:P.follows .mixedOrders=true)(Z:P.funcs[f]? =some fn)(J:max S.ps.length fn.ntmps=E.h.n){g:(PT S.ps).T->Option (RT S.rs).T}(Y:tfn E fn S=g)(hU:∀e∈E.U,e.OK P:=by exact HE)(hM:∀e∈E.M,e.OK P:=by exact KC):FT P f S g:=by
 subst Y;intro x y A;unfold tfn at A;cases H:fn.body with
 |none=>grind
 |some b=>
  rw[H]at A;exact Aba ⟨B,F,hW,hN,hU,hM⟩ O Z H J x y A
def Cw:∀e∈([]:List EnN),e.OK P:=by simp
theorem Aj:Io P []:=λ_ h=>by grind
def Ig{e:En}{l:List En}(H:AA P e.f=true)(F:FT P e.f e.S e.g)(B:Io P l):Io P (e::l):=by
 intro x A;rcases mem_cons.1 A with rfl|A
 .trivial
 .exact B x A
end Go.Ve

