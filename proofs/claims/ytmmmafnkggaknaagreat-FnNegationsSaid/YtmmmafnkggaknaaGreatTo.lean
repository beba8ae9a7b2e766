/- The typed machine over code: what a body computes, as a function; that it does. -/
import Derived.Test.YtmmmafnkggaknaaGreatTl
set_option linter.all false
namespace Go.Ve
variable{C:Ctx}{cs:List Dy}{L Rh:List Nat}{b:List Oper}{d:Nat}{P:Program}{s:St}{u:Ty}{R X:Type}
inductive LO(X R:Type) where
 |next (x:X)
 |brk (id:Nat) (x:X)
 |ret (r:R)
inductive CW{X R:Type}(f:X->Option (LO X R)):X->LO X R->Nat->Prop where
 |brk {x y:X}{id:Nat}:f x=some (.brk id y)->CW f x (.brk id y) 0
 |ret {x:X}{r:R}:f x=some (.ret r)->CW f x (.ret r) 0
 |step {x y:X}{o:LO X R}{n:Nat}:f x=some (.next y)->CW f y o n->CW f x o (n+1)
noncomputable def Aj{X R:Type}(f:X->Option (LO X R))(x:X):Option (LO X R):=@dite _ (∃o n,CW f x o n) (Classical.propDecidable _) (λh=>some (Classical.choose h)) λ_=>none
theorem CW.det{f:X->Option (LO X R)}:∀{x:X}{o A:LO X R}{n B:Nat},CW f x o n->CW f x A B->o=A/\n=B:=by
 intro x o A n B h
 induction h generalizing A B with
 |brk h=>intro e;cases e with
  |brk e=>grind
  |ret e=>grind
  |step e _=>grind
 |ret h=>intro e;cases e with
  |brk e=>grind
  |ret e=>grind
  |step e _=>grind
 |step h _ J=>intro e;cases e with
  |brk e=>grind
  |ret e=>grind
  |step e U=>grind
theorem CO{f:X->Option (LO X R)}{x:X}{o:LO X R}:Aj f x=some o↔ ∃n,CW f x o n:=by
 unfold Aj;split
 .rename_i h
  obtain⟨n,e⟩:=Classical.choose_spec h;constructor
  .grind
  .rintro ⟨B,A⟩;rw[(e.det A).1]
 grind
def Bu(f:X->Option (LO X R))(x:X):Aj f x=(f x).bind λo=>match o with
  |.next y=>Aj f y
  |.brk id y=>some (.brk id y)
  |.ret r=>some (.ret r):=by
 cases A:f x with
 |none=>
  show Aj f x=none;cases h:Aj f x with
  |none=>rfl
  |some o=>
   obtain⟨n,B⟩:=CO.1 h;cases B with
   |brk e=>rw[A]at e;cases e
   |ret e=>rw[A]at e;cases e
   |step e _=>rw[A]at e;cases e
 |some o=>
  cases o with
  |brk id y=>exact CO.2 ⟨0,.brk A⟩
  |ret r=>exact CO.2 ⟨0,.ret A⟩
  |next y=>
   show Aj f x=Aj f y;cases h:Aj f y with
   |some o=>obtain⟨n,B⟩:=CO.1 h;exact CO.2 ⟨n+1,.step A B⟩
   |none=>
    cases U:Aj f x with
    |none=>rfl
    |some o=>
     obtain⟨n,B⟩:=CO.1 U;cases B with
     |brk e=>rw[A]at e;cases e
     |ret e=>rw[A]at e;cases e
     |step e J=>rw[A]at e;cases e;rw[CO.2 ⟨_,J⟩]at h;cases h
def BS:List Ty->Ty
 |[]=>.unit
 |[t]=>t
 |t::u::l=>.pair t (BS (u::l))
def We(t:Ty)(y:Dy):Option t.T:=if h:y.t=t then some (h▸y.x)else none
def toX:(e:List Ty)->List Dy->Option (BS e).T
 |[],[]=>some ()
 |[t],[y]=>We t y
 |t::u::l,y::ys=>match We t y with
  |some x=>match toX (u::l) ys with
   |some z=>some (x,z)
   |none=>none
  |none=>none
 |_,_=>none
def ofX:(e:List Ty)->(BS e).T->List Dy
 |[],_=>[]
 |[t],x=>[⟨t,x⟩]
 |t::u::l,x=>⟨t,x.1⟩::ofX (u::l) x.2
theorem Wd{t:Ty}{y:Dy}{x:t.T}(h:We t y=some x):(⟨t,x⟩:Dy)=y:=by
 unfold We at h;split at h
 .rename_i e;subst e;cases h;rfl
 grind
theorem WT:∀(e:List Ty) (cs:List Dy) (x:(BS e).T),toX e cs=some x->ofX e x=cs
 |[],[],x,h=>rfl
 |[t],[y],x,h=>by show [⟨t,x⟩]=[y];rw[Wd h]
 |t::u::l,y::ys,x,h=>by
  have h:(match We t y with
   |some x=>match toX (u::l) ys with
    |some z=>some (x,z)
    |none=>none
   |none=>none:Option (BS (t::u::l)).T)=some x:=h
  split at h
  case h_2=>grind
  rename_i A J;split at h
  case h_2=>grind
  rename_i z B;cases h;show⟨t,A⟩::ofX (u::l) z=_;rw[Wd J,WT (u::l) ys z B]
 |[],_::_,_,h=>by cases h
 |[_],[],_,h=>by cases h
 |[_],_::_::_,_,h=>by cases h
 |_::_::_,[],_,h=>by cases h
structure PK extends Env where
 lp:List (Nat×List Nat×List Nat)
 dn:List (Nat×Nat)
variable{E:PK}
def BX:Code->Nat
 |.region id _ _=>id
 |.seq a b=>match a with
  |.skip=>BX b
  |.label _=>BX b
  |a=>BX a
 |.block _ b=>BX b
 |.loop b=>BX b
 |.scope b=>BX b
 |_=>0
def Be:Code->List Oper
 |.region _ ops _=>ops.toList
 |.seq a b=>Be a++Be b
 |.cond _ a b=>Be a++Be b
 |.block _ b=>Be b
 |.loop b=>Be b
 |.scope b=>Be b
 |_=>[]
def Nm:Code->List Nat
 |.exit id=>[id]
 |.seq a b=>Nm a++Nm b
 |.cond _ a b=>Nm a++Nm b
 |.block id b=>(Nm b).filter λi=>!Nat.beq i id
 |.loop b=>Nm b
 |_=>[]
def lookN{α:Type}(d:α):List (Nat×α)->Nat->α
 |[],_=>d
 |(i,x)::l,k=>bif Nat.beq i k then x else lookN d l k
def clId:Cl->List Nat
 |.rf id _=>[id]
 |.rp id _ _ _=>[id]
 |.rs id _ _ _=>[id]
 |_=>[]
def slId:Sl->List Nat
 |.one c=>clId c
 |_=>[]
def condN(s:St)(c:Nat):Bool:=bif Nat.ble 2000000 c then(match slId (s.t (c-2000000))with
 |[]=>true
 |_=>false)else bif Nat.ble 1000000 c then(slId (s.t ((c-1000000)/1000))).any λi=>Nat.beq i ((c-1000000) % 1000)else true
def Xi(s:St):List (Nat×List Nat×List Nat)->Nat->List Nat×List Nat
 |[],_=>([],[])
 |(i,L,R)::l,k=>bif Nat.beq i k then(bif R.all (condN s)then(L,R.filter λc=>!Nat.ble 1000000 c)else Xi s l k)else Xi s l k
def VM(o:Oper):Bool:=match o.op with
 |.store _ _ _=>true
 |_=>false
def Z3(o:Oper):Bool:=match o.op with
 |.build _ _=>true
 |.buildSlice _ _ _=>true
 |_=>VM o
def VN(E:Env)(o:Oper):Bool:=VM o||match VA E o with
 |some (.app _ _ _ _)=>true
 |some (.cw _ _ _)=>true
 |_=>false
def Uj:List Oper->Nat
 |[]=>0
 |o::l=>match o.op with
  |.assign _=>Uj l+1
  |_=>0
def isNew(ops:Array Oper)(y:Nat):Bool:=ops.toList.any λo=>match o.op,o.dst with
 |.alloc _,some d=>Nat.beq d y
 |_,_=>false
def isMade(ops:Array Oper)(y:Nat):Bool:=ops.toList.any λo=>match o.dst with
 |some d=>Nat.beq d y&&(match o.op with
  |.buildSlice _ _ _=>true
  |.makeSlice _ _ _=>true
  |op=>(Wl op).isSome)
 |none=>false
def isLate(E:Env)(ops:Array Oper)(o:Oper):Bool:=match o.op with
 |.store _ (.tmp y) _=>!isNew ops y
 |.store _ _ _=>true
 |_=>match Wl o.op with
  |some (_,.tmp y,_)=>!isMade ops y
  |some _=>true
  |none=>VN E o
def headD(E:Env)(ops:Array Oper):Nat:=bif ops.toList.any (VN E)then ops.toList.findIdx (λo=>Z3 o||VN E o)else
 bif HZ ops (ops.size-Uj ops.toList.reverse)then ops.size-Uj ops.toList.reverse else ops.size
def headN(E:PK)(id:Nat)(ops:Array Oper):Nat:=lookN (bif HZ ops (headD E.toEnv ops)then headD E.toEnv ops else ops.toList.findIdx (isLate E.toEnv ops)) E.dn id
def brkK{R:Type}(K:Exit->St->Option R):List Nat->Nat->St->Option R
 |[],_,_=>none
 |i::l,id,s=>nif id i (K (.exit i) s) (brkK K l id s)
@[reducible] def BB {X R:Type} (o:Option R):Option (LO X R):=o.map .ret
@[reducible] def LO.fin {X R:Type} (f:Nat->X->Option R):LO X R->Option R
 |.brk id x=>f id x
 |.ret r=>some r
 |.next _=>none
def Qx{R:Type}(L Rh:List Nat)(s:St)(keep:Nat)(A:List Ty)(K:Exit->St->Option R)(e:Exit)(s':St):Option (LO (BS A).T R):=match e with
 |.normal=>match Aab L Rh s s' keep with
  |some cs=>match toX A cs with
   |some x=>some (.next x)
   |none=>none
  |none=>none
 |.exit id=>match Aab L Rh s s' keep with
  |some cs=>match toX A cs with
   |some x=>some (.brk id x)
   |none=>none
  |none=>none
 |.ret=>BB (K .ret s')
 |_=>none
def XM{R:Type}(b:Code)(L Rh:List Nat)(s:St)(e:List Ty)(K:Exit->St->Option R):LO (BS e).T R->Option R:=
 LO.fin λid x=>brkK K (Nm b).eraseDups id (Bz false (Be b) L Rh s (ofX e x))
def M6(b:List Oper)(L Rh:List Nat)(s:St):Bool:=L.all (λd=>!(Av b d&&(s.t d).stay))&&Rh.all λi=>!(s.r.getD i .dead).isRo
def Lq:List Nat->St->St
 |[],s=>s
 |id::l,s=>match s.r.getD id .dead with
  |.arr false (.sl u) d xs=>bif Nat.beq u.dep 0 then Lq l ⟨s.t,s.r.set id (.arr false (.osl u) d (M4 xs))⟩else Lq l s
  |_=>Lq l s
def ozOf:List (Nat×Nat)->Nat->List Nat
 |[],_=>[]
 |(a,b)::l,k=>bif Nat.beq a (k+1000000)then b::ozOf l k else ozOf l k
def Jq:∀(u:Ty) (d:Nat) (x:u.T),u.dep=0->∀c∈AB u d x,∀ro,c.node ro=.dead
 |.int _,_,_,_,c,h,_=>by rw[List.mem_singleton.1 h];rfl
 |.bool,_,_,_,c,h,_=>by rw[List.mem_singleton.1 h];rfl
 |.str,_,_,_,c,h,_=>by rw[List.mem_singleton.1 h];rfl
 |.unit,_,_,_,c,h,_=>by cases h
 |.pair a b,d,x,hd,c,h,ro=>by
  simp[Ty.dep]at hd;rcases List.mem_append.1 h with h|h
  .exact Jq a d x.1 (by omega) c h ro
  .exact Jq b d x.2 (by omega) c h ro
 |.sl _,_,_,h,_,_,_=>by trivial
 |.ptr _,_,_,h,_,_,_=>by trivial
 |.clo _ _,_,_,h,_,_,_=>by trivial
 |.osl _,_,_,h,_,_,_=>by trivial
def Po{α:Type}(xs:List (List α))(i:Nat):(M4 xs).getD i (some [])=some (xs.getD i []):=by
 unfold M4;simp
def ZH{xs:List (List u.T)}:(Af.arr false (.osl u) d (M4 xs)).v=(Af.arr false (.sl u) d xs).v:=by
 show arr true 1 (tyV (.osl u) d) (some []) (M4 xs)=arr true 1 (tyV (.sl u) d) [] xs;unfold arr;have e:(M4 xs).length=xs.length:=by simp[M4]
 congr 1
 funext i k
 rw[Po];rfl
def Vq{xs:List (List u.T)}(J:u.dep=0):∀q:AZ,((Af.arr false (.osl u) d (M4 xs)).at' q).len=((Af.arr false (.sl u) d xs).at' q).len
 |[]=>by show(M4 xs).length=xs.length;simp[M4]
 |(i,0)::q=>by
  show(((Cl.c (.osl u) d ((M4 xs).getD i (some []))).node false).at' q).len=(((Cl.c (.sl u) d (xs.getD i [])).node false).at' q).len;rw[Po];cases d with
  |zero=>rfl
  |succ d=>
   cases q with
   |nil=>rfl
   |cons a q=>
    obtain⟨A,k2⟩:=a;show(((([]:List Cl).getD k2 .dead).node false).at' q).len=((((AB u d ((xs.getD i []).getD A u.dflt)).getD k2 .dead).node false).at' q).len
    have e:((AB u d ((xs.getD i []).getD A u.dflt)).getD k2 .dead).node false=.dead:=by
     by_cases B:k2<(AB u d ((xs.getD i []).getD A u.dflt)).length
     .rw[gDE,gEE B]
      exact Jq u d _ J _ (List.getElem_mem B) _
     .rw[gDE,List.getElem?_eq_none (by omega)];rfl
    rw[e];rfl
 |(i,k+1)::q=>by
  rfl
theorem Cl.v_lens{r r':List Af}(h:∀id q,(Ai r' id q).len=(Ai r id q).len)(y:Cl):y.v r'=y.v r:=by
 cases y with
 |rf id p=>show V.rs id p 0 _=V.rs id p 0 _;grind
 |_=>rfl
theorem Sl.v_lens{r r':List Af}(h:∀id q,(Ai r' id q).len=(Ai r id q).len)(y:Sl):y.v r'=y.v r:=by
 have e:=funext λc=>Cl.v_lens h c
 cases y with
 |one c=>exact Cl.v_lens h c
 |new l=>rfl
 |agg l=>show An _=An _;grind
 |tup l=>show Do _=Do _;grind
 |pk t l=>show pkL t _=pkL t _;grind
theorem Hw:∀(l:List Nat) (s:St),(Lq l s).den=s.den/\∀g,Kp g s (Lq l s)
 |[],s=>⟨rfl,λg=>Kp.refl _ _⟩
 |id::l,s=>by
  unfold Lq;split
  .rename_i u d xs J
   cases hb:Nat.beq u.dep 0 with
   |false=>exact Hw l s
   |true=>
    have hu:=bqE hb;obtain⟨h1,h2⟩:=Hw l ⟨s.t,s.r.set id (.arr false (.osl u) d (M4 xs))⟩;have W:id<s.r.length:=by
     grind
    have hn:∀id' q,(Ai (s.r.set id (.arr false (.osl u) d (M4 xs))) id' q).len=(Ai s.r id' q).len:=by
     intro id' q;by_cases Z:id'=id
     .subst Z
      unfold Ai;have e:(s.r.set id' (.arr false (.osl u) d (M4 xs))).getD id' .dead=.arr false (.osl u) d (M4 xs):=by simp[W]
      rw[e,J];exact Vq hu q
     .rw[Bs Z]
    have B:(s.r.set id (.arr false (.osl u) d (M4 xs))).map Af.v=s.r.map Af.v:=by
     rw[List.map_set,ZH,<-J];apply List.ext_getElem?
     grind
    refine⟨?_,λg=>?_⟩
    .show(Lq l _).den=_
     rw[h1];unfold St.den;simp only[B]
     congr 1
     funext i
     exact Sl.v_lens hn _
    .refine Kp.trans (s1:=⟨s.t,s.r.set id (.arr false (.osl u) d (M4 xs))⟩) (g1:=g) (g2:=g) ⟨λi _ _=>rfl,λid' _ A=>?_,by simp⟩ (h2 g) (λ_ h=>h) λ_ h=>h
     have U:id≠id':=by
      rintro rfl
      rw[J]at A;cases A
     simp only[gDE,List.getElem?_set_ne U]
  .exact Hw l s
noncomputable def CB(H:Code->{R:Type}->St->(Exit->St->Option R)->Option R)(E:PK):Code->{R:Type}->St->(Exit->St->Option R)->Option R
 |.skip,_,s,K=>K .normal s
 |.region _ ops false,_,s,K=>tops E.toEnv ops (WB ops.size ops.toList) s (K .normal)
 |.region id ops true,_,s,K=>Y2 E.toEnv (headN E id ops) ops s (K .normal)
 |.seq a b,_,s,K=>CB H E a s λe s'=>match e with
  |.normal=>CB H E b s' K
  |.exit id=>K (.exit id) s'
  |.ret=>K .ret s'
  |.goto l=>K (.goto l) s'
  |_=>none
 |.cond c x y,_,s,K=>match s.ev c with
  |some (.one (.c .bool _ b))=>OF b (CB H E x s K) (CB H E y s K)
  |_=>none
 |.block id b,_,s,K=>CB H E b s λe s'=>match e with
  |.exit i=>bif Nat.beq i id then K .normal s' else K (.exit i) s'
  |.normal=>K .normal s'
  |.ret=>K .ret s'
  |.goto l=>K (.goto l) s'
  |_=>none
 |.loop b,R,s0,K=>match Lq (ozOf E.dn (BX b)) s0 with
  |s=>match Xi s E.lp (BX b)with
  |(L,Rh)=>bif M6 (Be b) L Rh s then(match Aab L Rh s s E.h.keep with
   |some cs=>match toX (cs.map (·.t)) cs with
    |some x=>ID (Aj (λx=>CB H E b (Bz true (Be b) L Rh s (ofX (cs.map (·.t)) x)) (Qx L Rh s E.h.keep (cs.map (·.t)) K)) x) (XM b L Rh s (cs.map (·.t)) K)
    |none=>none
   |none=>none)else none
 |.exit id,_,s,K=>K (.exit id) s
 |.label _,_,s,K=>K .normal s
 |.goto l,_,s,K=>K (.goto l) s
 |.ret,_,s,K=>K .ret s
 |.scope c,_,s,K=>H c s K
 |_,_,_,_=>none
noncomputable def Y1(E:PK):Code->{R:Type}->St->(Exit->St->Option R)->Option R:=CB (λ_ _ _ _=>.none) E
theorem JC{t0:Nat->Sl}:∀(L:List Nat) (cs:List Dy) (t:Nat->Sl) (i:Nat),L.contains i=false->(J2 t0 L cs t).1 i=t i
 |[],cs,t,i,_=>rfl
 |d::L,cs,t,i,h=>by
  rw[List.contains_cons,Bool.or_eq_false_iff]at h;unfold J2;rw[JC L _ _ i h.2];have e:i≠d:=by
   grind
  exact AY e
def HK{e:List Af}:∀(Rh:List Nat) (cs:List Dy) (r:List Af) (i:Nat),Rh.contains i=false->(Hb e Rh cs r).getD i .dead=r.getD i .dead
 |[],cs,r,i,_=>rfl
 |d::L,cs,r,i,h=>by
  rw[List.contains_cons,Bool.or_eq_false_iff]at h;unfold Hb;rw[HK L _ _ i h.2]
  grind
def HJ{e:List Af}:∀(Rh:List Nat) (cs:List Dy) (r:List Af),(Hb e Rh cs r).length=r.length
 |[],cs,r=>rfl
 |d::L,cs,r=>by unfold Hb;rw[HJ L,List.length_set]
theorem VP{ro:Bool}(h:M6 b L Rh s=true):Kp (Av b) s (Bz ro b L Rh s cs):=by
 unfold M6 at h;rw[bAE]at h;refine⟨λi J hs=>?_,λid U A=>?_,?_⟩
 .have B:L.contains i=false:=by
   grind
  show(J2 s.t L cs _).1 i=_;rw[JC L _ _ i B];show(bif Av b i&&(s.t i).stay then s.t i else _)=_;rw[J,hs];rfl
 .have B:Rh.contains id=false:=by
   grind
  show(Hb s.r Rh _ (bif ro then s.r.map BH else s.r)).getD id .dead=_;rw[HK Rh _ _ id B];cases ro with
  |false=>rfl
  |true=>
   show(s.r.map BH).getD id .dead=_
   have e:(s.r.map BH).getD id .dead=BH (s.r.getD id .dead):=by
    simp only[gDE,List.getElem?_map];cases s.r[id]? <;>rfl
   rw[e];generalize s.r.getD id .dead=x at A;cases x with
   |dead=>rfl
   |obj ro l=>have A:ro=true:=A;subst A;rfl
   |arr ro t d xs=>have A:ro=true:=A;subst A;rfl
   |opt ro t d xs=>have A:ro=true:=A;subst A;rfl
 .show s.r.length<=(Hb s.r Rh _ (bif ro then s.r.map BH else s.r)).length
  rw[HJ];cases ro<;>simp
theorem QF{s':St}(W:Kp (Av b) (Bz true b L Rh s cs) s'):
  (∀i,L.contains i=false->Av b i=true->(s.t i).stay=true->s'.t i=s.t i)/\
  (∀id,id<s.r.length->Rh.contains id=false->(s'.r.getD id .dead).v=(s.r.getD id .dead).v/\(s'.r.getD id .dead).len=(s.r.getD id .dead).len)/\
  (∀id,id<s.r.length->Rh.contains id=false->∀q:AZ,((s'.r.getD id .dead).at' q).len=((s.r.getD id .dead).at' q).len):=by
 have hR:∀id,id<s.r.length->Rh.contains id=false->s'.r.getD id .dead=BH (s.r.getD id .dead):=λid U J=>by
  have e:(Bz true b L Rh s cs).r.getD id .dead=BH (s.r.getD id .dead):=by
   show(Hb s.r Rh _ (s.r.map BH)).getD id .dead=_;rw[HK Rh _ _ id J]
   grind
  have B:(BH (s.r.getD id .dead)).isRo=true:=by cases s.r.getD id .dead<;>rfl
  have A:(Bz true b L Rh s cs).r.length=s.r.length:=by
   show(Hb s.r Rh _ (s.r.map BH)).length=_;rw[HJ,List.length_map]
  rw[W.r id (by rw[A];exact U) (by rw[e];exact B),e]
 refine⟨λi J Z hs=>?_,λid U J=>?_,λid U J q=>by rw[hR id U J];exact XW q _ _ (Jc _)⟩
 .have e:(Bz true b L Rh s cs).t i=s.t i:=by
   show(J2 s.t L cs _).1 i=_;rw[JC L _ _ i J]
   grind
  rw[W.t i Z (by rw[e];exact hs),e]
 .have e:(Bz true b L Rh s cs).r.getD id .dead=BH (s.r.getD id .dead):=by
   show(Hb s.r Rh _ (s.r.map BH)).getD id .dead=_;rw[HK Rh _ _ id J]
   grind
  have B:(BH (s.r.getD id .dead)).isRo=true:=by cases s.r.getD id .dead<;>rfl
  have A:(Bz true b L Rh s cs).r.length=s.r.length:=by
   show(Hb s.r Rh _ (s.r.map BH)).length=_;rw[HJ,List.length_map]
  rw[W.r id (by rw[A];exact U) (by rw[e];exact B),e]
  exact Lc _
theorem NC{R:Type}{K:Exit->St->Option R}{z:R}{s:St}:∀(l:List Nat) (id:Nat),brkK K l id s=some z->K (.exit id) s=some z
 |[],id,h=>by cases h
 |i::l,id,h=>by
  have h:(if id=i then K (.exit i) s else brkK K l id s)=some z:=h
  split at h
  .grind
  .exact NC l id h
theorem ZQ{P:Program}{H:Code->{R:Type}->St->(Exit->St->Option R)->Option R}(J:C.m<=E.h.keep){b:Code}
  (ih:∀{R:Type} (s:St) (K:Exit->St->Option R) (z:R) (Q:Exit->Act->World->Prop) (a:Act) (w:World),AR C E.h.n s.den a w->CB H E b s K=some z->(∀e s' a' w',Kp (Av (Be b)) s s'->AR C E.h.n s'.den a' w'->K e s'=some z->Q e a' w')->b.wp P Q a w)
  {R:Type}{s:St}{K:Exit->St->Option R}{z:R}{Q:Exit->Act->World->Prop}{a:Act}{w:World} (hs:AR C E.h.n s.den a w) {L Rh:List Nat} (hok:M6 (Be b) L Rh s=true) {A:List Ty}{cs:List Dy} (hcs:Aab L Rh s s E.h.keep=some cs) {x0:(BS A).T} (hx0':ofX A x0=cs)
  (h:(Aj (λx=>CB H E b (Bz true (Be b) L Rh s (ofX A x)) (Qx L Rh s E.h.keep A K)) x0).bind (XM b L Rh s A K)=some z)
  (hQ:∀e s' a' w',Kp (Av (Be b)) s s'->AR C E.h.n s'.den a' w'->K e s'=some z->Q e a' w'):(Code.loop b).wp P Q a w:=by
 obtain⟨hd0,hdd0,D0,ρ0,F0,hcr0⟩:=id hs;have hml:C.m<=s.r.length:=by have:=hcr0.ml;simpa [St.den]using this
 let body:(BS A).T->Option (LO (BS A).T R):=λx=>CB H E b (Bz true (Be b) L Rh s (ofX A x)) (Qx L Rh s E.h.keep A K)
 have h:(Aj body x0).bind (XM b L Rh s A K)=some z:=h;cases hl:Aj body x0 with
 |none=>rw[hl]at h;cases h
 |some o0=>
  rw[hl]at h;have h:XM b L Rh s A K o0=some z:=h;obtain⟨n0,hn0⟩:=CO.1 hl
  have h0:AR C E.h.n (Bz true (Be b) L Rh s (ofX A x0)).den a w:=by
   rw[hx0'];exact Ov hs hcs J hml (λ_ _ _ _=>rfl) (λ_ _ _=>⟨rfl,rfl⟩) λ_ _ _ _=>rfl
  let I':Act->World->Prop:=λa w=>∃x n o,CW body x o n/\XM b L Rh s A K o=some z/\AR C E.h.n (Bz true (Be b) L Rh s (ofX A x)).den a w
  have hmin:∀(a:Act) (w:World),∃k,I' a w->(∃x n o,CW body x o n/\XM b L Rh s A K o=some z/\AR C E.h.n (Bz true (Be b) L Rh s (ofX A x)).den a w/\n=k)/\∀x n o,CW body x o n->XM b L Rh s A K o=some z->AR C E.h.n (Bz true (Be b) L Rh s (ofX A x)).den a w->k<=n:=by
   intro a w;by_cases hI:I' a w
   .obtain⟨x,n,o,g1,g2,g3⟩:=hI
    obtain⟨k,hk,hlt⟩:=Qz (p:=λk=>∃x n o,CW body x o n/\XM b L Rh s A K o=some z/\AR C E.h.n (Bz true (Be b) L Rh s (ofX A x)).den a w/\n=k) ⟨n,x,n,o,g1,g2,g3,rfl⟩
    exact⟨k,λ_=>⟨hk,λx n o g1 g2 g3=>Nat.le_of_not_lt λhl=>hlt n hl ⟨x,n,o,g1,g2,g3,rfl⟩⟩⟩
   .exact⟨0,λh=>absurd h hI⟩
  let μ':Act->World->Nat:=λa w=>Classical.choose (hmin a w)
  have hμ':=λa w hI=>Classical.choose_spec (hmin a w) hI
  refine wp_loop I' μ' ⟨x0,n0,o0,hn0,h,h0⟩ λa w hI=>?_
  obtain⟨⟨x,n,o,g1,g2,g3,hn⟩,_⟩:=hμ' a w hI;have hn:n=μ' a w:=hn
  -- the round's own answer
  have hround:∃lo,body x=some lo/\((∃y n',lo=.next y/\CW body y o n'/\n=n'+1)\/(lo=o)):=by
   cases g1 with
   |brk h'=>exact⟨_,h',.inr rfl⟩
   |ret h'=>exact⟨_,h',.inr rfl⟩
   |step h' h2=>exact⟨_,h',.inl ⟨_,_,rfl,h2,rfl⟩⟩
  obtain⟨lo,hlo,U⟩:=hround;refine ih _ _ lo _ a w g3 hlo λe s' a' w' hk hs' B=>?_
  obtain⟨f1,f2,f3⟩:=QF hk;have hk0:Kp (Av (Be b)) s s':=Kp.trans (VP hok) hk (λ_ h=>h) λ_ h=>h
  cases e with
  |normal=>
   unfold Qx at B;simp only at B;split at B
   case h_2=>cases B
   rename_i cs2 Z;split at B
   case h_2=>cases B
   rename_i x2 hx2;cases B;rcases U with⟨y,n',W,hl2,hnn⟩|W
   .cases W
    have hs2:AR C E.h.n (Bz true (Be b) L Rh s (ofX A x2)).den a' w':=by
     rw[WT _ _ _ hx2];exact Ov hs' Z J hml f1 f2 f3
    have hI2:I' a' w':=⟨x2,n',o,hl2,g2,hs2⟩;refine⟨hI2,?_⟩;have:=(hμ' a' w' hI2).2 x2 n' o hl2 g2 hs2;have:μ' a' w'<=n':=this;omega
   .subst W
    cases g2
  |exit id=>
   unfold Qx at B;simp only at B;split at B
   case h_2=>cases B
   rename_i cs2 Z;split at B
   case h_2=>cases B
   rename_i x2 hx2;cases B;rcases U with⟨y,n',W,_⟩|W
   .cases W
   .subst W
    have g2:brkK K (Nm b).eraseDups id (Bz false (Be b) L Rh s (ofX A x2))=some z:=g2
    have hs2:AR C E.h.n (Bz false (Be b) L Rh s (ofX A x2)).den a' w':=by
     rw[WT _ _ _ hx2];exact Ov hs' Z J hml f1 f2 f3
    exact hQ _ _ _ _ (VP hok) hs2 (NC _ _ g2)
  |ret=>
   have B:(K .ret s').map LO.ret=some lo:=B;cases hkr:K .ret s' with
   |none=>rw[hkr]at B;cases B
   |some r=>
    rw[hkr]at B;cases B;rcases U with⟨y,n',W,_⟩|W
    .cases W
    .subst W
     cases g2;exact hQ _ _ _ _ hk0 hs' hkr
  |goto l=>cases B
  |panic ch=>cases B
  |outgrown=>cases B
def L4(P:Program)(E:PK)(C:Ctx)(H:Code->{R:Type}->St->(Exit->St->Option R)->Option R):Prop:=
 ∀(c:Code) {R:Type} (s:St) (K:Exit->St->Option R) (z:R) (Q:Exit->Act->World->Prop) (a:Act) (w:World),AR C E.h.n s.den a w->H c s K=some z->
  (∀e s' A w',Kp (Av (Be c)) s s'->AR C E.h.n s'.den A w'->K e s'=some z->Q e A w')->(Code.scope c).wp P Q a w
theorem Up{H:Code->{R:Type}->St->(Exit->St->Option R)->Option R}(hE:EOK P E.toEnv)(hm:P.follows .mixedOrders=true)(hkeep:C.m<=E.h.keep)(hH:L4 P E C H):∀(c:Code) {R:Type} (s:St) (K:Exit->St->Option R) (z:R) (Q:Exit->Act->World->Prop) (a:Act) (w:World),AR C E.h.n s.den a w->CB H E c s K=some z->
  (∀e s' Z w',Kp (Av (Be c)) s s'->AR C E.h.n s'.den Z w'->K e s'=some z->Q e Z w')->c.wp P Q a w:=by
 intro c
 induction c with
 |skip=>intro R s K z Q a w hs h A;exact wp_skip (A _ _ _ _ (Kp.refl _ _) hs h)
 |region id ops draw=>
  intro R s K z Q a w hs h A;cases draw with
  |false=>
   have h:tops E.toEnv ops (WB ops.size ops.toList) s (K .normal)=some z:=h;refine wp_region_list ?_;have:=Uk hE (ops:=ops) (Q:=Q) _ s a w hs h λs' Z w' U B J=>A .normal s' Z w' (by rw[Ck]at U;exact U) B J
   rw[Ck]at this;exact this
  |true=>exact WV hE hm hs h λs' Z w' U B J=>A .normal s' Z w' U B J
 |seq x y ihx ihy=>
  intro R s K z Q a w hs h A
  have hsp:∀i,Av (Be (.seq x y)) i=true->Av (Be x) i=true/\Av (Be y) i=true:=λi W=>by
   have W:Av (Be x++Be y) i=true:=W;rw[Js,bAE]at W;exact W
  refine wp_seq (ihx s _ z _ a w hs h λe s' Z w' U B J=>?_)
  have hk':Kp (Av (Be (.seq x y))) s s':=U.weak λi W=>(hsp i W).1
  cases e with
  |normal=>exact ihy s' K z Q Z w' B J λe2 s2 a2 w2 hk2 hs2 hz2=>A e2 s2 a2 w2 (U.trans hk2 (λi W=>(hsp i W).1) λi W=>(hsp i W).2) hs2 hz2
  |exit id=>exact A _ _ _ _ hk' B J
  |ret=>exact A _ _ _ _ hk' B J
  |goto l=>exact A _ _ _ _ hk' B J
  |panic ch=>cases J
  |outgrown=>cases J
 |cond c x y ihx ihy=>
  intro R s K z Q a w hs h A
  have hsp:∀i,Av (Be (.cond c x y)) i=true->Av (Be x) i=true/\Av (Be y) i=true:=λi W=>by
   have W:Av (Be x++Be y) i=true:=W;rw[Js,bAE]at W;exact W
  have h:(match s.ev c with
   |some (.one (.c .bool _ b))=>bif b then CB H E x s K else CB H E y s K
   |_=>none)=some z:=h
  split at h
  .rename_i d b hb
   obtain⟨hdd,D,ρ,F,hcr⟩:=hs.2;have h1:=BY hcr hdd c;rw[Bh hb]at h1;refine wp_cond (t:=b) h1.1 ?_;cases b with
   |true=>exact ihx s K z Q a w hs h λe s' Z w' U=>A e s' Z w' (U.weak λi W=>(hsp i W).1)
   |false=>exact ihy s K z Q a w hs h λe s' Z w' U=>A e s' Z w' (U.weak λi W=>(hsp i W).2)
  .cases h
 |block id b ih=>
  intro R s K z Q a w hs h A;refine wp_block (ih s _ z _ a w hs h λe s' Z w' U B J=>?_)
  cases e with
  |exit id'=>
   simp only[Exit.inBlock];have J:(bif Nat.beq id' id then K .normal s' else K (.exit id') s')=some z:=J;by_cases he:id'=id
   .subst he
    rw[Nat.beq_refl]at J;rw[if_pos rfl];exact A _ _ _ _ U B J
   .rw[BI he]at J
    rw[if_neg he];exact A _ _ _ _ U B J
  |normal=>exact A _ _ _ _ U B J
  |ret=>exact A _ _ _ _ U B J
  |goto l=>exact A _ _ _ _ U B J
  |panic ch=>cases J
  |outgrown=>cases J
 |loop b ih=>
  intro R s0 K z Q a w hs h A;unfold CB at h;obtain⟨s,hso⟩:∃s,s=Lq (ozOf E.dn (BX b)) s0:=⟨_,rfl⟩;rw[<-hso]at h;obtain⟨hden,hkp⟩:=Hw (ozOf E.dn (BX b)) s0;rw[<-hso]at hden hkp;rw[<-hden]at hs;have A:∀e s' Z w',Kp (Av (Be (.loop b))) s s'->AR C E.h.n s'.den Z w'->K e s'=some z->Q e Z w':=λe s' Z w' U=>A e s' Z w' ((hkp _).trans U (λ_ h=>h) λ_ h=>h)
  have h:(match Xi s E.lp (BX b)with
   |(L,Rh)=>bif M6 (Be b) L Rh s then(match Aab L Rh s s E.h.keep with
    |some cs=>match toX (cs.map (·.t)) cs with
     |some x=>ID (Aj (λx=>CB H E b (Bz true (Be b) L Rh s (ofX (cs.map (·.t)) x)) (Qx L Rh s E.h.keep (cs.map (·.t)) K)) x) (XM b L Rh s (cs.map (·.t)) K)
     |none=>none
    |none=>none)else none)=some z:=h
  split at h
  rename_i L Rh hlp;obtain⟨hok,h⟩:=Bb h;split at h
  case h_2=>cases h
  rename_i cs hcs;split at h
  case h_2=>cases h
  rename_i x0 hx0;have hx0':=WT _ _ _ hx0;exact ZQ hkeep ih hs hok hcs hx0' h A
 |exit id=>intro R s K z Q a w hs h A;exact wp_exit (A _ _ _ _ (Kp.refl _ _) hs h)
 |label l=>intro R s K z Q a w hs h A;exact wp_label (A _ _ _ _ (Kp.refl _ _) hs h)
 |ret=>intro R s K z Q a w hs h A;exact wp_ret (A _ _ _ _ (Kp.refl _ _) hs h)
 |goto l=>intro R s K z Q a w hs h A;exact wp_goto (A _ _ _ _ (Kp.refl _ _) hs h)
 |rangeFunc f ps x y _ _=>intro R s K z Q a w hs h A;cases h
 |scope c _=>intro R s K z Q a w hs h A;exact hH c s K z Q a w hs h A
 |refuse s=>intro R s K z Q a w hs h A;cases h
theorem L4.none{P:Program}{E:PK}{C:Ctx}:L4 P E C (λ_ _ _ _=>.none):=λ_ _ _ _ _ _ _ _ _ h=>by grind
def OP(W:EOK P E.toEnv)(J:P.follows .mixedOrders=true)(A:C.m<=E.h.keep)(c:Code)(s:St)(K:Exit->St->Option R)(z:R)(Q:Exit->Act->World->Prop)(a:Act)(w:World)(hs:AR C E.h.n s.den a w)(h:Y1 E c s K=some z)
  (U:∀e s' B w',Kp (Av (Be c)) s s'->AR C E.h.n s'.den B w'->K e s'=some z->Q e B w'):c.wp P Q a w:=
 Up W J A L4.none c s K z Q a w hs h U
end Go.Ve


namespace Go.Ve
variable{l:List Cl}{P:Program}{s:St}
def divP:AZ->AZ->Bool
 |(_,k)::p,(_,l)::q=>!Nat.beq k l||divP p q
 |_,_=>false
theorem PA{x:V}:∀{p q:AZ} (_:divP p q=true) (v:V),sub q (upd p v x)=sub q v/\A9 p q=false
 |(i,k)::p,(j,l)::q,h0,v=>by
  have h:(!Nat.beq k l||divP p q)=true:=h0;by_cases e:k=l
  .subst e
   rw[Nat.beq_refl,Bool.not_true,Bool.false_or]at h;refine⟨?_,?_⟩
   .cases v with
    |nd s o sz n f=>
     show sub q (if j=i/\k=k then upd p (f i k) x else f j k)=sub q (f j k)
     by_cases A:j=i
     .subst A
      rw[if_pos ⟨rfl,rfl⟩];exact(PA h (f j k)).1
     grind
    |_=>rfl
   .show(i==j&&k==k&&A9 p q)=false
    rw[(PA (x:=x) h v).2,Bool.and_false]
  .refine⟨?_,?_⟩
   .cases v with
    |nd s o sz n f=>
     show sub q (if j=i/\l=k then upd p (f i k) x else f j l)=sub q (f j l)
     grind
    |_=>rfl
   .show(i==j&&k==l&&A9 p q)=false
    grind
 |[],_,h,_=>by cases h
 |_::_,[],h,_=>by cases h
def CQ:List Cl->List (Nat×AZ)
 |[]=>[]
 |.rf id p::l=>(id,p)::CQ l
 |_::l=>CQ l
def Pz(a b:Nat×AZ):Bool:=!Nat.beq a.1 b.1||divP a.2 b.2
def Nv:List (Nat×AZ)->Bool
 |[]=>true
 |a::l=>l.all (Pz a)&&Nv l
def Y5(r:List Af):Cl->Option Cl
 |.c t d x=>some (.c t d x)
 |.nil=>some .nil
 |.nilp=>some .nilp
 |.rf id p=>match Ai r id p with
  |.arr _ t d xs=>some (.c (.sl t) (d+1) xs)
  |_=>none
 |_=>none
def Me(r:List Af):List Cl->Option (List Cl)
 |[]=>some []
 |y::l=>match Y5 r y with
  |some z=>match Me r l with
   |some m=>some (z::m)
   |none=>none
  |none=>none
def Pm{id:Nat}{q:AZ}:∀{l:List Cl},Cl.rf id q∈l->(id,q)∈CQ l
 |[],h=>by grind
 |z::l,h=>by
  rcases List.mem_cons.1 h with h|h
  .subst h;exact List.mem_cons_self ..
  .have:=Pm h
   cases z<;>first|trivial|exact mCM _ this
def I5{r:List Af}{y:Cl}:∀{l l1:List Cl},Me r l=some l1->y∈l->∃z,Y5 r y=some z
 |[],_,_,h=>by grind
 |z::l,l1,hl,h=>by
  unfold Me at hl;split at hl
  case h_2=>grind
  split at hl
  case h_2=>grind
  rename_i l2 e;rcases List.mem_cons.1 h with h|h
  .grind
  .exact I5 e h
def Y0{m id:Nat}{p:AZ}{n:Nat}{e σ:List V}:tkL (m+1) (V.rs id p 0 n::e) σ=(match sub p (σ.getD id .dead)with
   |.nd true true sz A f=>if 0=0/\n=A then .nd true true sz A f::tkL m (e.map λv=>AQ σ.length [] (rrV id p σ.length v)) (σ.set id (upd p (σ.getD id .dead) .dead)++[.dead])else .dead::tkL m e σ
   |_=>.dead::tkL m e σ):=rfl
theorem tkL_v(r:List Af):∀(l l':List Cl) (m:Nat) (σ:List V),l.length<=m->l.all Cl.plain=true->Me r l=some l'->Nv (CQ l)=true->
  (∀id p,(id,p)∈CQ l->sub p (σ.getD id .dead)=(Ai r id p).v/\id<σ.length)->tkL m (l.map (Cl.v r)) σ=l'.map Cl.v0:=by
 intro l
 induction l with
 |nil=>intro l' m σ _ _ h _ _;cases h;cases m<;>rfl
 |cons y l ih=>
  intro l' m σ hm hp h hd U;cases m with
  |zero=>simp at hm
  |succ m=>
   simp only[List.length_cons]at hm;rw[List.all_cons,bAE]at hp;unfold Me at h;split at h
   case h_2=>cases h
   rename_i z B;split at h
   case h_2=>cases h
   rename_i l1 W;cases h
   have plainly:∀v:V,y.v r=v->v=z.v0->CQ (y::l)=CQ l->(∀vs,tkL (m+1) (v::vs) σ=v::tkL m vs σ)->tkL (m+1) ((y::l).map (Cl.v r)) σ=(z::l1).map Cl.v0:=by
    intro v hv hvz hrf htk;rw[List.map_cons,List.map_cons,hv,htk,<-hvz]
    congr 1
    exact ih l1 m σ (by omega) hp.2 W (by rw[hrf]at hd;exact hd) λid p hm=>U id p (by rw[hrf];exact hm)
   cases y with
   |c t d x=>
    cases B;cases t<;>first|exact plainly _ rfl rfl rfl (λ_=>rfl)|cases hp.1
   |nil=>cases B;exact plainly _ rfl rfl rfl λ_=>rfl
   |nilp=>cases B;exact plainly _ rfl rfl rfl λ_=>rfl
   |nilf=>cases B
   |rf id p=>
    unfold Y5 at B;simp only at B;split at B
    case h_2=>cases B
    rename_i ro t d xs hn;cases B;have Z:((CQ l).all (Pz (id,p))&&Nv (CQ l))=true:=hd;rw[bAE]at Z;obtain⟨hs,hid⟩:=U id p (List.mem_cons_self ..);rw[hn]at hs;have hs:sub p (σ.getD id .dead)=.nd true true t.w xs.length λi k=>(tyV t d (xs.getD i t.dflt)).getD k .dead:=hs
    rw[List.map_cons];show tkL (m+1) (V.rs id p 0 (Ai r id p).len::l.map (Cl.v r)) σ=_;rw[hn];show tkL (m+1) (V.rs id p 0 xs.length::l.map (Cl.v r)) σ=_
    have e:tkL (m+1) (V.rs id p 0 xs.length::l.map (Cl.v r)) σ=(V.nd true true t.w xs.length λi k=>(tyV t d (xs.getD i t.dflt)).getD k .dead)::
      tkL m ((l.map (Cl.v r)).map λv=>AQ σ.length [] (rrV id p σ.length v)) (σ.set id (upd p (σ.getD id .dead) .dead)++[.dead]):=by
     rw[Y0,hs];exact if_pos ⟨rfl,rfl⟩
    rw[e,List.map_cons]
    congr 1
    -- the rest is as it was
    have hsame:(l.map (Cl.v r)).map (λv=>AQ σ.length [] (rrV id p σ.length v))=l.map (Cl.v r):=by
     rw[List.map_map];refine List.map_congr_left λy hy=>?_
     show AQ σ.length [] (rrV id p σ.length (y.v r))=y.v r;cases y with
     |c t d x=>cases t<;>first|rfl|exact(congrArg (AQ σ.length []) ((Db id p σ.length).osl (d:=d))).trans ((Bg σ.length []).osl (d:=d))|exact(congrArg (AQ σ.length []) ((Db id p σ.length).clo (d:=d))).trans ((Bg σ.length []).clo (d:=d))
     |dead=>rfl
     |nil=>rfl
     |nilp=>rfl
     |nilf=>rfl
     |rf id' q=>
      have A:(id',q)∈CQ l:=Pm hy;have J:=aET.1 Z.1 _ A;have hlt:=(U id' q (mCM _ A)).2
      have hn1:¬ (id'=id/\A9 p q=true):=by
       rintro ⟨h1,h2⟩
       unfold Pz at J;simp only[h1,Nat.beq_refl,Bool.not_true,Bool.false_or]at J;rw[(PA (x:=.dead) J .dead).2]at h2;cases h2
      show AQ σ.length [] (rrV id p σ.length (.rs id' q 0 (Ai r id' q).len))=_;simp only[rrV,if_neg hn1,AQ];rw[if_neg (by rintro ⟨h,_⟩;omega)]
      rfl
     |rs id' q a b=>obtain⟨z,B⟩:=I5 W hy;cases B
     |rp id' q a b=>obtain⟨z,B⟩:=I5 W hy;cases B
    rw[hsame];refine ih l1 m _ (by omega) hp.2 W Z.2 λid' q A=>?_
    obtain⟨h1,h2⟩:=U id' q (mCM _ A);have J:=aET.1 Z.1 _ A;refine⟨?_,by simp;omega⟩
    have hlt:id'<(σ.set id (upd p (σ.getD id .dead) .dead)).length:=by simpa using h2
    rw[AG hlt];by_cases hii:id=id'
    .subst hii
     rw[Aq hid,<-h1];unfold Pz at J;simp only[Nat.beq_refl,Bool.not_true,Bool.false_or]at J;exact(PA J _).1
    .rw[Ao hii,h1]
   |dead=>cases B
   |rs=>cases B
   |rp=>cases B
def Y4(r:List Af):List Cl->Option (List Cl)
 |[.rp id [] 0 0]=>match r.getD id .dead with
  |.obj false l=>match Ha l with
   |some ⟨t,x⟩=>bif l.any Cl.own then none else some [.c (.ptr t) 1 x]
   |none=>none
  |_=>none
 |l=>Me r l
theorem Y3{m:List Cl}(e:Y4 s.r l=some m)(h3:l.all Cl.plain=true)(hd:Nv (CQ l)=true):tkL (l.map (Cl.v s.r)).length (l.map (Cl.v s.r)) s.den.σ=m.map Cl.v0:=by
 unfold Y4 at e;split at e
 .rename_i id
  split at e
  case h_2=>cases e
  rename_i l hr;split at e
  case h_2=>cases e
  rename_i t x hf;cases hb:l.any Cl.own with
  |true=>rw[hb]at e;cases e
  |false=>
  rw[hb]at e;cases e;have e1:=DG _ _ hf
  have e2:(l.map Cl.v0).map frz=l.map Cl.v0:=by
   rw[List.map_map];refine List.map_congr_left λc hc=>XG ?_
   have:=List.any_eq_false.1 hb c hc;simpa using this
  have e3:tyV t 0 x=l.map Cl.v0:=e1.trans e2
  have hσ:s.den.σ.getD id .dead=Bj true (l.map Cl.v0):=by
   show(s.r.map Af.v).getD id .dead=_;rw[AA,hr];rfl
  show(match sub [] (s.den.σ.getD id .dead)with
   |.nd false true sz n f=>if 0=0/\0=0 then V.nd false true sz n f::[]else [.dead]
   |_=>[.dead])=[Bj (decide (0<1)) (tyV t 0 x)]
  rw[hσ,e3];rfl
 .have hlt:∀id p,(id,p)∈CQ l->Ai s.r id p≠.dead:=by
   intro id p
   have key:∀(l Z:List Cl),Me s.r l=some Z->(id,p)∈CQ l->Ai s.r id p≠.dead:=by
    intro l
    induction l with
    |nil=>intro Z _ h;cases h
    |cons y l ih=>
     intro Z W e;unfold Me at W;split at W
     case h_2=>cases W
     rename_i z1 A;split at W
     case h_2=>cases W
     rename_i l2 U;cases y with
     |rf id' q=>
      rcases List.mem_cons.1 e with h|h
      .cases h
       intro hx
       have A:(match Ai s.r id p with
        |.arr _ t d xs=>some (Cl.c (.sl t) (d+1) xs)
        |_=>none)=some z1:=A
       rw[hx]at A;cases A
      .exact ih l2 U h
     |_=>exact ih l2 U e
   exact key _ _ e
  refine tkL_v s.r l m (l.map (Cl.v s.r)).length s.den.σ (by simp) h3 e hd λid p J=>?_
  have B:=hlt id p J;refine⟨A1 B,?_⟩;show id<(s.r.map Af.v).length;rw[List.length_map];rcases Nat.lt_or_ge id s.r.length with h|h
  .exact h
  .exfalso
   apply B;unfold Ai;rw[gDE,List.getElem?_eq_none h];exact DI p
def retV1(Θ:Tab)(s:St):ResultVar->Option Sl
 |.tmp t=>some (s.t t)
 |.cell a t=>match UE s (Θ.look t) (s.ev (.tmp a))with
  |some (.ok y)=>some y
  |_=>none
def Xc(Θ:Tab)(s:St):List ResultVar->Option (List Sl)
 |[]=>some []
 |v::l=>match retV1 Θ s v with
  |some y=>match Xc Θ s l with
   |some m=>some (y::m)
   |none=>none
  |none=>none
def cellsOf:List Sl->Option (List (Bool×List Cl))
 |[]=>some []
 |y::l=>match y with
  |.one c=>match(Sl.one c).cells,cellsOf l with
   |some m,some n=>some ((false,m)::n)
   |_,_=>none
  |.agg c=>match(Sl.agg c).cells,cellsOf l with
   |some m,some n=>some ((true,m)::n)
   |_,_=>none
  |_=>none
def N8(t:Ty)(d:Nat)(l:List Cl):Option t.T:=H7 t d (l.map (fit d))
theorem Jo{t:Ty}{d:Nat}{x:t.T}(h:N8 t d l=some x)(r:List Af):CV (l.map (Cl.v r)) (tyV t d x)/\l.map (Cl.v r)=l.map Cl.v0:=by
 have:=C1 h r
 have A:(l.map (fit d)).map (Cl.v r)=l.map (Cl.v r):=by
  rw[List.map_map];exact List.map_congr_left λc _=>(Aaj d r c).1
 have e:(l.map (fit d)).map Cl.v0=l.map Cl.v0:=by
  rw[List.map_map];exact List.map_congr_left λc _=>(Aaj d r c).2
 grind
def Kq(b:Bool)(p:Bool×Nat×Ty)(l:List Cl):Option p.2.2.T:=bif b|| !isP p then N8 p.2.2 p.2.1 l else match l with
 |[.nilp]=>some p.2.2.dflt
 |_=>none
def Pe(b:Bool):(rs:List (Bool×Nat×Ty))->List (Bool×List Cl)->List Cl->Option (RT rs).T
 |[],[],[]=>some ()
 |[p],[q],l=>bif p.1==q.1&&(p.1||p.2.2.one)&&Nat.beq l.length q.2.length then Kq b p l else none
 |p::A::rs,q::e::qs,l=>bif p.1==q.1&&(p.1||p.2.2.one)&&Nat.ble q.2.length l.length then(match Kq b p (l.take q.2.length)with
  |some x=>match Pe b (A::rs) (e::qs) (l.drop q.2.length)with
   |some z=>some (x,z)
   |none=>none
  |none=>none)else none
 |_,_,_=>none
def AaB(b:Bool)(Θ:Tab)(e:List ResultVar)(rs:List (Bool×Nat×Ty))(s:St):Option (RT rs).T:=match Xc Θ s e with
 |some ys=>match cellsOf ys with
  |some ls=>match Y4 s.r (ls.flatMap (·.2))with
   |some m=>bif Nv (CQ (ls.flatMap (·.2)))then Pe b rs ls m else none
   |none=>none
  |none=>none
 |none=>none
def retK(Θ:Tab)(e:List ResultVar)(rs:List (Bool×Nat×Ty)):Exit->St->Option (RT rs).T
 |.normal,s=>AaB true Θ e rs s
 |.ret,s=>AaB true Θ e rs s
 |_,_=>none
def pS(b:Bool)(t:Ty)(x:t.T):Sl:=bif b then .agg (AB t 0 x)else .one (.c t 0 x)
def WH:(l:List (Bool×Ty))->(PT l).T->List Sl
 |[],_=>[]
 |[p],x=>[pS p.1 p.2 x]
 |p::q::l,x=>pS p.1 p.2 x.1::WH (q::l) x.2
def NX(l:List (Bool×Ty))(x:(PT l).T):St:=⟨λi=>(WH l x).getD i (.one .dead),[]⟩
noncomputable def tfun(E:PK)(body:Code)(e:List ResultVar)(S:Sig)(x:(PT S.ps).T):Option (RT S.rs).T:=Y1 E body (NX S.ps x) (retK E.Θ e S.rs)
theorem Nz{s:St}:∀(ys:List Sl) (ls:List (Bool×List Cl)),cellsOf ys=some ls->(ys.map (Sl.v s.r)).all By=true/\(ys.map (Sl.v s.r)).flatMap Go.Ve.cellsV=(ls.flatMap (·.2)).map (Cl.v s.r)/\(ls.flatMap (·.2)).all Cl.plain=true/\ls.length=ys.length
 |[],ls,h=>by cases h;exact⟨rfl,rfl,rfl,rfl⟩
 |y::ys,ls,h=>by
  have go:∀(b:Bool) (m:List Cl) (n:List (Bool×List Cl)),y.cells=some m->cellsOf ys=some n->ls=(b,m)::n->((y::ys).map (Sl.v s.r)).all By=true/\((y::ys).map (Sl.v s.r)).flatMap Go.Ve.cellsV=(ls.flatMap (·.2)).map (Cl.v s.r)/\(ls.flatMap (·.2)).all Cl.plain=true/\ls.length=(y::ys).length:=by
   intro b m n B A e;subst e;obtain⟨U,h2,J⟩:=CL (r:=s.r) B;obtain⟨g1,g2,Z,W⟩:=Nz ys n A;refine⟨by rw[List.map_cons,List.all_cons,U,g1];rfl,?_,?_,by simp[W]⟩
   .grind
   .rw[List.flatMap_cons,List.all_append,J,Z];rfl
  unfold cellsOf at h;split at h
  .split at h
   .rename_i m n B A
    cases h;exact go _ _ _ B A rfl
   .cases h
  .split at h
   .rename_i m n B A
    cases h;exact go _ _ _ B A rfl
   .cases h
  .cases h
theorem DJ{s:St}:∀(ys:List Sl) (ls:List (Bool×List Cl)),cellsOf ys=some ls->∀k,k<ls.length->((ls.getD k (false,[])).1=true/\(∃l,(ys.getD k (.one .dead)).v s.r=An l/\l.length=(ls.getD k (false,[])).2.length))\/((ls.getD k (false,[])).1=false/\(∀t n f,(ys.getD k (.one .dead)).v s.r≠.many t n f)/\(ls.getD k (false,[])).2.length=1)
 |[],ls,h,k,hk=>by cases h;simp at hk
 |y::ys,ls,h,k,hk=>by
  unfold cellsOf at h;split at h
  .rename_i c
   split at h
   .rename_i m n e B
    cases h;cases k with
    |zero=>
     right;refine⟨rfl,?_,?_⟩
     .have e:(bif c.plain then some [c]else none)=some m:=e
      cases A:c.plain with
      |false=>rw[A]at e;cases e
      |true=>
       show ∀t n f,c.v s.r≠.many t n f;cases c with
       |c t d x=>cases t<;>first|(cases A;done)|(intro _ _ _ h;cases h)
       |_=>intro _ _ _ h;cases h
     .have e:(bif c.plain then some [c]else none)=some m:=e
      cases A:c.plain with
      |false=>rw[A]at e;cases e
      |true=>rw[A]at e;cases e;rfl
    |succ k=>exact DJ ys n B k (by simpa using hk)
   .cases h
  .rename_i c
   split at h
   .rename_i m n e B
    cases h;cases k with
    |zero=>
     left;refine⟨rfl,c.map (Cl.v s.r),rfl,?_⟩;have e:(bif c.all Cl.plain then some c else none)=some m:=e;cases A:c.all Cl.plain with
     |false=>rw[A]at e;cases e
     |true=>rw[A]at e;cases e;simp
    |succ k=>exact DJ ys n B k (by simpa using hk)
   .cases h
  .cases h
def Xk(b:Bool):∀(rs:List (Bool×Nat×Ty)) (ls:List (Bool×List Cl)) (l:List Cl) (z:(RT rs).T) (J:List V),Pe b rs ls l=some z->J.length=ls.length->
  (∀k,k<ls.length->((ls.getD k (false,[])).1=true/\(∃m,J.getD k .dead=An m/\m.length=(ls.getD k (false,[])).2.length))\/((ls.getD k (false,[])).1=false/\(∀t n f,J.getD k .dead≠.many t n f)/\(ls.getD k (false,[])).2.length=1))->
  CV (Bc J (l.map Cl.v0)) (Qe b rs z):=by
 -- one result
 have one:∀(p:Bool×Nat×Ty) (q:Bool×List Cl) (l:List Cl) (x:p.2.2.T) (v:V) (vs:List V) (A:List V),p.1=q.1->(p.1=true\/p.2.2.one=true)->l.length=q.2.length->Kq b p l=some x->
   ((q.1=true/\(∃m,v=An m/\m.length=q.2.length))\/(q.1=false/\(∀t n f,v≠.many t n f)/\q.2.length=1))->∃v',Bc (v::vs) (l.map Cl.v0++A)=v'::Bc vs A/\Sub v' (WA b p x):=by
  intro p q l x v vs A h1 h2 B W hk;unfold Kq at W;unfold WA;cases Z:b|| !isP p with
  |false=>
   rw[Z]at W;simp only[cond_false]at W;split at W
   case h_2=>cases W
   have hp1:p.1=false:=by
    rw[Bool.or_eq_false_iff,Bool.not_eq_false']at Z;have:=Z.2;unfold isP at this;rw[bAE,Bool.not_eq_true']at this;exact this.1
   rcases hk with⟨hq,_⟩|⟨_,hv,_⟩
   .rw[<-h1,hp1]at hq;cases hq
   .refine⟨.c (.pointer none),?_,Sub.refl _⟩
    show Bc (v::vs) (.c (.pointer none)::A)=_;cases v with
    |many t n f=>exact absurd rfl (hv _ _ _)
    |_=>rfl
  |true=>
  rw[Z]at W;simp only[cond_true]at W⊢;obtain⟨g1,g2⟩:=Jo W [];rw[g2]at g1;rcases hk with⟨hq,m,rfl,hm⟩|⟨hq,hv,hq1⟩
  .refine⟨An (l.map Cl.v0),?_,?_⟩
   .show An ((l.map Cl.v0++A).take m.length)::Bc vs ((l.map Cl.v0++A).drop m.length)=_
    have e:(l.map Cl.v0).length=m.length:=by rw[List.length_map,B,hm]
    rw[<-e,List.take_left,List.drop_left]
   .rw[h1,hq];exact g1.mk
  .have hp:p.1=false:=by rw[h1,hq]
   have ho:p.2.2.one=true:=by rcases h2 with h|h;rw[hp]at h;cases h;exact h
   rw[BM ho]at g1
   match l,B with
   |[y],_=>
    refine⟨y.v0,?_,?_⟩
    .show Bc (v::vs) (y.v0::A)=_
     cases v with
     |many t n f=>exact absurd rfl (hv _ _ _)
     |_=>rfl
    .rw[hp];exact g1.1
   |[],B=>rw[hq1]at B;cases B
   |_::_::_,B=>rw[hq1]at B;simp at B
 intro rs
 induction rs with
 |nil=>
  intro ls l z J h B hk;cases ls with
  |nil=>cases l with
   |nil=>cases J with
    |nil=>trivial
    |cons=>simp at B
   |cons=>cases h
  |cons=>cases h
 |cons p rs ih=>
  intro ls l z J h B hk;cases rs with
  |nil=>
   cases ls with
   |nil=>cases h
   |cons q ls=>cases ls with
    |cons=>cases h
    |nil=>
     have h:(bif p.1==q.1&&(p.1||p.2.2.one)&&Nat.beq l.length q.2.length then Kq b p l else none)=some z:=h;obtain⟨U,h⟩:=Bb h;simp only[bAE,beq_iff_eq,Bool.or_eq_true]at U;cases J with
     |nil=>simp at B
     |cons v J=>cases J with
      |cons=>simp at B
      |nil=>
       obtain⟨v',e,hs⟩:=one p q l z v [] [] U.1.1 U.1.2 (bqE U.2) h (hk 0 (by simp))
       rw[List.append_nil]at e;rw[e];exact⟨hs,trivial⟩
  |cons p' rs=>
   cases ls with
   |nil=>cases h
   |cons q ls=>cases ls with
    |nil=>cases h
    |cons q' ls=>
     have h:(bif p.1==q.1&&(p.1||p.2.2.one)&&Nat.ble q.2.length l.length then(match Kq b p (l.take q.2.length)with
      |some x=>match Pe b (p'::rs) (q'::ls) (l.drop q.2.length)with
       |some z=>some (x,z)
       |none=>none
      |none=>none)else none:Option (RT (p::p'::rs)).T)=some z:=h
     cases U:(p.1==q.1&&(p.1||p.2.2.one)&&Nat.ble q.2.length l.length)with
     |false=>rw[U]at h;cases h
     |true=>
      rw[U]at h;simp only[bAE,beq_iff_eq,Bool.or_eq_true]at U;simp only[cond_true]at h;split at h
      case h_2=>cases h
      rename_i x W;split at h
      case h_2=>cases h
      rename_i z2 hz2;cases h;cases J with
      |nil=>simp at B
      |cons v J=>
       have hlen:(l.take q.2.length).length=q.2.length:=by
        have:=blE U.2;rw[List.length_take];omega
       obtain⟨v',e,hs⟩:=one p q (l.take q.2.length) x v J ((l.drop q.2.length).map Cl.v0) U.1.1 U.1.2 hlen W (hk 0 (by simp))
       rw[<-List.map_append,List.take_append_drop]at e;rw[e];refine⟨hs,ih (q'::ls) (l.drop q.2.length) z2 J hz2 (by simpa using B) λk hk'=>?_⟩
       have:=hk (k+1) (by simpa using hk')
       simpa using this
theorem UY{P:Program}{Θ:Tab}(J:Θ.OK P){s:St}{K:List V->Prop}:∀(B:List ResultVar) (ys:List Sl) (e:List V),Xc Θ s B=some ys->K (e++ys.map (Sl.v s.r))->Q6 P s.den B e K
 |[],ys,e,h,hK=>by cases h;show K e;grind
 |v::B,ys,e,h,hK=>by
  unfold Xc at h;split at h
  case h_2=>cases h
  rename_i y U;split at h
  case h_2=>cases h
  rename_i m Z;cases h;have A:Q6 P s.den B (e++[y.v s.r]) K:=UY J B m _ Z (by grind)
  cases v with
  |tmp t=>
   cases U;exact A
  |cell a t=>
   unfold retV1 at U;simp at U;split at U
   .rename_i y' hl
    cases U;exact Kk (OS J hl trivial) λr0 W=>by rw[W];exact A
   grind
theorem OZ{Θ:Tab}(U:Θ.OK P){J:List ResultVar}{rs:List (Bool×Nat×Ty)}{b:Bool}{z:(RT rs).T}(h:AaB b Θ J rs s=some z):Q6 P s.den J [] (Wv s.den.σ (JY b rs z)):=by
 unfold AaB at h;split at h
 case h_2=>cases h
 rename_i ys W;split at h
 case h_2=>cases h
 rename_i ls B;split at h
 case h_2=>cases h
 rename_i m hm;obtain⟨hd,h⟩:=Bb h;refine UY U J ys [] W ?_;rw[List.nil_append];obtain⟨h1,h2,h3,h4⟩:=Nz (s:=s) ys ls B;refine⟨h1,?_⟩;rw[h2];have Z:=Y3 hm h3 hd
 .rw[Z]
  have A:=Xk b rs ls m z (ys.map (Sl.v s.r)) h (by rw[List.length_map,h4]) λk hk=>?_
  .-- Ko
   have hp:∀{a b:List V},CV a b->Sub (M1 a) (M1 b):=by
    intro a b e
    match a,b,e with
    |[],[],_=>exact Sub.refl _
    |[x],[y],e=>exact e.1
    |x::x'::a,y::y'::b,e=>
     show Sub (Do _) (Do _);unfold Do;rw[e.len];exact⟨_,rfl,λk _=>e.getD k⟩
    |[],_::_,e=>exact e.elim
    |_::_,[],e=>exact e.elim
    |[_],_::_::_,e=>exact e.2.elim
    |_::_::_,[_],e=>exact e.2.elim
   exact hp A
  .have:=DJ (s:=s) ys ls B k hk
   simp_all
def pS_v(b:Bool)(t:Ty)(x:t.T):(pS b t x).v []=vOf b t 0 x:=by
 cases b with
 |true=>show An ((AB t 0 x).map (Cl.v []))=_;rw[Cl.v_c];rfl
 |false=>rfl
def Wj:∀(l:List (Bool×Ty)) (x:(PT l).T),(WH l x).map (Sl.v [])=Ct l x
 |[],x=>rfl
 |[p],x=>congrArg (λv=>[v]) (pS_v p.1 p.2 x)
 |p::q::l,x=>by
  show(pS p.1 p.2 x.1).v []::(WH (q::l) x.2).map (Sl.v [])=vOf p.1 p.2 0 x.1::Ct (q::l) x.2;rw[Wj (q::l) x.2,pS_v]
def DL:∀(l:List (Bool×Ty)) (x:(PT l).T),(Ct l x).length=l.length
 |[],_=>rfl
 |[_],_=>rfl
 |_::q::l,x=>by show(Ct (q::l) x.2).length+1=_;rw[DL];rfl
theorem X2{E:PK}{f:FuncId}{fn:Func}{body:Code}{S:Sig}(U:EOK P E.toEnv)(hm:P.follows .mixedOrders=true)(hf:P.funcs[f]? =some fn)(hb:fn.body=some body)(hn:max S.ps.length fn.ntmps=E.h.n):
  FT P f S (tfun E body fn.results.toList S):=by
 intro x y B;refine FC_of hf hb (by rw[DL];omega) λ_ C a w Q hCm hs J=>?_
 have e:(NX S.ps x).den=⟨λi=>(Ct S.ps x).getD i .dead,[]⟩:=by
  show Ms.mk (λi=>((WH S.ps x).getD i (.one .dead)).v []) []=_
  congr 1
  funext i
  rw[<-Wj S.ps x,AN (a:=.one .dead) rfl]
 rw[<-e]at hs;rw[<-D5]at J;refine OP U hm (by omega) body (NX S.ps x) _ y Q a w hs B λe s' Z w' _ A W=>?_
 cases e with
 |normal=>exact J .normal s'.den Z w' (OZ U.Θ W) A
 |ret=>exact J .ret s'.den Z w' (OZ U.Θ W) A
 |exit id=>trivial
 |goto l=>trivial
 |panic ch=>trivial
 |outgrown=>trivial
end Go.Ve


namespace Go.Ve
variable{P:Program}
noncomputable def tfn(E:PK)(fn:Func)(S:Sig)(x:(PT S.ps).T):Option (RT S.rs).T:=match fn.body with
 |some b=>tfun E b fn.results.toList S x
 |none=>none
theorem FT_fn{E:PK}{f:FuncId}{fn:Func}{S:Sig}(B:Tab.OK P E.Θ)(J:He P E.Γ)(hW:∀e∈E.W,e.OK P)(hN:∀e∈E.N,e.OK P)(hm:P.follows .mixedOrders=true)(hf:P.funcs[f]? =some fn)(hn:max S.ps.length fn.ntmps=E.h.n){g:(PT S.ps).T->Option (RT S.rs).T}(hg:tfn E fn S=g)(hU:∀e∈E.U,e.OK P:=by exact Bi):FT P f S g:=by
 subst hg;intro x y A;unfold tfn at A;cases Z:fn.body with
 |none=>grind
 |some b=>
  rw[Z]at A;exact X2 ⟨B,J,hW,hN,hU⟩ hm hf Z hn x y A
def V6:∀e∈([]:List EnN),e.OK P:=by simp
theorem Ag:He P []:=λ_ h=>by grind
def XQ{e:En}{l:List En}(U:A5 P e.f=true)(J:FT P e.f e.S e.g)(B:He P l):He P (e::l):=by
 intro x A;rcases List.mem_cons.1 A with rfl|A
 .trivial
 .exact B x A
end Go.Ve

