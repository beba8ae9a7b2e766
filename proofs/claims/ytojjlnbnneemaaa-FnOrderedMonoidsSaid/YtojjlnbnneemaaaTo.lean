/- The typed machine over code: what a body computes, as a function; that it does. -/
import Derived.Test.YtojjlnbnneemaaaTl
set_option linter.all false
namespace Go.Ve
variable{C:Ctx}{cs:List Dy}{L Rh:List Nat}{b:List Oper}{d:Nat}{P:Program}{s:St}{u:Ty}{R X:Type}
inductive LO(X R:Type) where
 |next (x:X)
 |brk (id:Nat) (x:X)
 |ret (r:R)
inductive Dd{X R:Type}(f:X->Option (LO X R)):X->LO X R->Nat->Prop where
 |brk {x y:X}{id:Nat}:f x=some (.brk id y)->Dd f x (.brk id y) 0
 |ret {x:X}{r:R}:f x=some (.ret r)->Dd f x (.ret r) 0
 |step {x y:X}{o:LO X R}{n:Nat}:f x=some (.next y)->Dd f y o n->Dd f x o (n+1)
noncomputable def Ar{X R:Type}(f:X->Option (LO X R))(x:X):Option (LO X R):=@dite _ (∃o n,Dd f x o n) (Classical.propDecidable _) (λh=>some (Classical.choose h)) λ_=>none
theorem Dd.det{f:X->Option (LO X R)}:∀{x:X}{o A:LO X R}{n B:Nat},Dd f x o n->Dd f x A B->o=A/\n=B:=by
 intro x o A n B h
 induction h generalizing A B with
 |brk h=>intro e;cases e with
  |brk e=>grind
  |ret e=>grind
  |step e _=>grind
 |ret h=>intro e;cases e with
  |brk e=>grind
  |ret e=>grind
  |step e _=>grind
 |step h _ F=>intro e;cases e with
  |brk e=>grind
  |ret e=>grind
  |step e J=>grind
theorem C6{f:X->Option (LO X R)}{x:X}{o:LO X R}:Ar f x=some o↔ ∃n,Dd f x o n:=by
 unfold Ar;split
 .rename_i h
  obtain⟨n,hn⟩:=Classical.choose_spec h;constructor
  .grind
  .rintro ⟨A,e⟩;rw[(hn.det e).1]
 grind
def Cg(f:X->Option (LO X R))(x:X):Ar f x=(f x).bind λo=>match o with
  |.next y=>Ar f y
  |.brk id y=>some (.brk id y)
  |.ret r=>some (.ret r):=by
 cases A:f x with
 |none=>
  show Ar f x=none;cases h:Ar f x with
  |none=>rfl
  |some o=>
   obtain⟨n,hn⟩:=C6.1 h;cases hn with
   |brk e=>rw[A]at e;cases e
   |ret e=>rw[A]at e;cases e
   |step e _=>rw[A]at e;cases e
 |some o=>
  cases o with
  |brk id y=>exact C6.2 ⟨0,.brk A⟩
  |ret r=>exact C6.2 ⟨0,.ret A⟩
  |next y=>
   show Ar f x=Ar f y;cases h:Ar f y with
   |some o=>obtain⟨n,hn⟩:=C6.1 h;exact C6.2 ⟨n+1,.step A hn⟩
   |none=>
    cases F:Ar f x with
    |none=>rfl
    |some o=>
     obtain⟨n,hn⟩:=C6.1 F;cases hn with
     |brk e=>rw[A]at e;cases e
     |ret e=>rw[A]at e;cases e
     |step e B=>rw[A]at e;cases e;rw[C6.2 ⟨_,B⟩]at h;cases h
def BV:List Ty->Ty
 |[]=>.unit
 |[t]=>t
 |t::u::l=>.pair t (BV (u::l))
def toX:(e:List Ty)->List Dy->Option (BV e).T
 |[],[]=>some ()
 |[t],[y]=>IS t y
 |t::u::l,y::ys=>match IS t y with
  |some x=>match toX (u::l) ys with
   |some z=>some (x,z)
   |none=>none
  |none=>none
 |_,_=>none
def ofX:(e:List Ty)->(BV e).T->List Dy
 |[],_=>[]
 |[t],x=>[⟨t,x⟩]
 |t::u::l,x=>⟨t,x.1⟩::ofX (u::l) x.2
theorem Yk:∀(e:List Ty) (cs:List Dy) (x:(BV e).T),toX e cs=some x->ofX e x=cs
 |[],[],x,h=>rfl
 |[t],[y],x,h=>by show [⟨t,x⟩]=[y];rw[Hy h]
 |t::u::l,y::ys,x,h=>by
  have h:(match IS t y with
   |some x=>match toX (u::l) ys with
    |some z=>some (x,z)
    |none=>none
   |none=>none:Option (BV (t::u::l)).T)=some x:=h
  split at h
  case h_2=>grind
  rename_i A F;split at h
  case h_2=>grind
  rename_i z B;cases h;show⟨t,A⟩::ofX (u::l) z=_;rw[Hy F,Yk (u::l) ys z B]
 |[],_::_,_,h=>by cases h
 |[_],[],_,h=>by cases h
 |[_],_::_::_,_,h=>by cases h
 |_::_::_,[],_,h=>by cases h
structure Bt extends Env where
 lp:List (Nat×List Nat×List Nat)
 dn:List (Nat×Nat)
variable{E:Bt}
def BZ:Code->Nat
 |.region id _ _=>id
 |.seq a b=>match a with
  |.skip=>BZ b
  |.label _=>BZ b
  |a=>BZ a
 |.block _ b=>BZ b
 |.loop b=>BZ b
 |.scope b=>BZ b
 |_=>0
def Bo:Code->List Oper
 |.region _ ops _=>ops.toList
 |.seq a b=>Bo a++Bo b
 |.cond _ a b=>Bo a++Bo b
 |.block _ b=>Bo b
 |.loop b=>Bo b
 |.scope b=>Bo b
 |_=>[]
def ON:Code->List Nat
 |.exit id=>[id]
 |.seq a b=>ON a++ON b
 |.cond _ a b=>ON a++ON b
 |.block id b=>(ON b).filter λi=>!Nat.beq i id
 |.loop b=>ON b
 |_=>[]
def lookN{α:Type}(d:α):List (Nat×α)->Nat->α
 |[],_=>d
 |(i,x)::l,k=>bif Nat.beq i k then x else lookN d l k
def clId:Cl->List Nat
 |.rf id _=>[id]
 |.rp id _ _ _=>[id]
 |.rs id _ _ _=>[id]
 |.rm id _=>[id]
 |_=>[]
def slId:Sl->List Nat
 |.one c=>clId c
 |.pk _ l=>l.flatMap clId
 |_=>[]
def condN(s:St)(c:Nat):Bool:=bif Nat.ble 2000000 c then(match slId (s.t (c-2000000))with
 |[]=>true
 |_=>false)else bif Nat.ble 1000000 c then(slId (s.t ((c-1000000)/1000))).any λi=>Nat.beq i ((c-1000000) % 1000)else true
def YP(s:St):List (Nat×List Nat×List Nat)->Nat->List Nat×List Nat
 |[],_=>([],[])
 |(i,L,R)::l,k=>bif Nat.beq i k then(bif R.all (condN s)then(L,R.filter λc=>!Nat.ble 1000000 c)else YP s l k)else YP s l k
def Xl(o:Oper):Bool:=match o.op with
 |.store _ _ _=>true
 |_=>false
def AbT(o:Oper):Bool:=match o.op with
 |.build _ _=>true
 |.buildSlice _ _ _=>true
 |_=>Xl o
def Xm(E:Env)(o:Oper):Bool:=Xl o||match W7 E o with
 |some (.app _ _ _ _)=>true
 |some (.cw _ _ _)=>true
 |_=>false
def VT:List Oper->Nat
 |[]=>0
 |o::l=>match o.op with
  |.assign _=>VT l+1
  |_=>0
def isNew(ops:Array Oper)(y:Nat):Bool:=ops.toList.any λo=>match o.op,o.dst with
 |.alloc _,some d=>Nat.beq d y
 |_,_=>false
def isMade(ops:Array Oper)(y:Nat):Bool:=ops.toList.any λo=>match o.dst with
 |some d=>Nat.beq d y&&(match o.op with
  |.buildSlice _ _ _=>true
  |.makeSlice _ _ _=>true
  |op=>(XP op).isSome)
 |none=>false
def isLate(E:Env)(ops:Array Oper)(o:Oper):Bool:=match o.op with
 |.mapUpdate _ _ _ _=>true
 |.store _ (.tmp y) _=>!isNew ops y
 |.store _ _ _=>true
 |_=>match XP o.op with
  |some (_,.tmp y,_)=>!isMade ops y
  |some _=>true
  |none=>Xm E o
def headD(E:Env)(ops:Array Oper):Nat:=bif ops.toList.any (Xm E)then ops.toList.findIdx (λo=>AbT o||Xm E o)else
 bif Ix ops (ops.size-VT ops.toList.reverse)then ops.size-VT ops.toList.reverse else ops.size
def headN(E:Bt)(id:Nat)(ops:Array Oper):Nat:=lookN (bif Ix ops (headD E.toEnv ops)then headD E.toEnv ops else ops.toList.findIdx (isLate E.toEnv ops)) E.dn id
def brkK{R:Type}(K:Exit->St->Option R):List Nat->Nat->St->Option R
 |[],_,_=>none
 |i::l,id,s=>nif id i (K (.exit i) s) (brkK K l id s)
@[reducible] def BA {X R:Type} (o:Option R):Option (LO X R):=o.map .ret
@[reducible] def LO.fin {X R:Type} (f:Nat->X->Option R):LO X R->Option R
 |.brk id x=>f id x
 |.ret r=>some r
 |.next _=>none
def U9{R:Type}(L Rh:List Nat)(s:St)(keep:Nat)(A:List Ty)(K:Exit->St->Option R)(e:Exit)(s':St):Option (LO (BV A).T R):=match e with
 |.normal=>match Ab1 L Rh s s' keep with
  |some cs=>match toX A cs with
   |some x=>some (.next x)
   |none=>none
  |none=>none
 |.exit id=>match Ab1 L Rh s s' keep with
  |some cs=>match toX A cs with
   |some x=>some (.brk id x)
   |none=>none
  |none=>none
 |.ret=>BA (K .ret s')
 |_=>none
def Zk{R:Type}(b:Code)(L Rh:List Nat)(s:St)(e:List Ty)(K:Exit->St->Option R):LO (BV e).T R->Option R:=
 LO.fin λid x=>brkK K (ON b).eraseDups id (BD false (Bo b) L Rh s (ofX e x))
def Ot(b:List Oper)(L Rh:List Nat)(s:St):Bool:=L.all (λd=>!(Au b d&&(s.t d).stay))&&Rh.all λi=>!(s.r.getD i .dead).isRo
def MA:List Nat->St->St
 |[],s=>s
 |id::l,s=>match s.r.getD id .dead with
  |.arr false (.sl u) d xs=>bif Nat.beq u.dep 0 then MA l ⟨s.t,s.r.set id (.arr false (.osl u) d (Oo xs))⟩else MA l s
  |_=>MA l s
def ozOf:List (Nat×Nat)->Nat->List Nat
 |[],_=>[]
 |(a,b)::l,k=>bif Nat.beq a (k+1000000)then b::ozOf l k else ozOf l k
def J4:∀(u:Ty) (d:Nat) (x:u.T),u.dep=0->∀c∈AA u d x,∀ro,c.node ro=.dead
 |.int _,_,_,_,c,h,_=>by rw[List.mem_singleton.1 h];rfl
 |.bool,_,_,_,c,h,_=>by rw[List.mem_singleton.1 h];rfl
 |.str,_,_,_,c,h,_=>by rw[List.mem_singleton.1 h];rfl
 |.unit,_,_,_,c,h,_=>by cases h
 |.pair a b,d,x,hd,c,h,ro=>by
  simp[Ty.dep]at hd;rcases List.mem_append.1 h with h|h
  .exact J4 a d x.1 (by omega) c h ro
  .exact J4 b d x.2 (by omega) c h ro
 |.sl _,_,_,h,_,_,_=>by trivial
 |.ptr _,_,_,h,_,_,_=>by trivial
 |.clo _ _,_,_,h,_,_,_=>by trivial
 |.osl _,_,_,h,_,_,_=>by trivial
def QU{α:Type}(xs:List (List α))(i:Nat):(Oo xs).getD i (some [])=some (xs.getD i []):=by
 unfold Oo;simp
def Abv{xs:List (List u.T)}:(Ac.arr false (.osl u) d (Oo xs)).v=(Ac.arr false (.sl u) d xs).v:=by
 show arr true 1 (tyV (.osl u) d) (some []) (Oo xs)=arr true 1 (tyV (.sl u) d) [] xs;unfold arr;have e:(Oo xs).length=xs.length:=by simp[Oo]
 congr 1
 funext i k
 rw[QU];rfl
def WY{xs:List (List u.T)}(F:u.dep=0):∀q:AW,((Ac.arr false (.osl u) d (Oo xs)).at' q).len=((Ac.arr false (.sl u) d xs).at' q).len
 |[]=>by show(Oo xs).length=xs.length;simp[Oo]
 |(i,0)::q=>by
  show(((Cl.c (.osl u) d ((Oo xs).getD i (some []))).node false).at' q).len=(((Cl.c (.sl u) d (xs.getD i [])).node false).at' q).len;rw[QU];cases d with
  |zero=>rfl
  |succ d=>
   cases q with
   |nil=>rfl
   |cons a q=>
    obtain⟨A,k2⟩:=a;show(((([]:List Cl).getD k2 .dead).node false).at' q).len=((((AA u d ((xs.getD i []).getD A u.dflt)).getD k2 .dead).node false).at' q).len
    have e:((AA u d ((xs.getD i []).getD A u.dflt)).getD k2 .dead).node false=.dead:=by
     by_cases B:k2<(AA u d ((xs.getD i []).getD A u.dflt)).length
     .rw[gDE,gEE B]
      exact J4 u d _ F _ (List.getElem_mem B) _
     .rw[gDE,List.getElem?_eq_none (by omega)];rfl
    rw[e];rfl
 |(i,k+1)::q=>by
  rfl
theorem HW:∀(l:List Nat) (s:St),(MA l s).den=s.den/\∀g,Kp g s (MA l s)
 |[],s=>⟨rfl,λg=>Kp.refl _ _⟩
 |id::l,s=>by
  unfold MA;split
  .rename_i u d xs F
   cases W:Nat.beq u.dep 0 with
   |false=>exact HW l s
   |true=>
    have U:=bqE W;obtain⟨Z,Y⟩:=HW l ⟨s.t,s.r.set id (.arr false (.osl u) d (Oo xs))⟩;have M:id<s.r.length:=by
     grind
    have hn:∀id' q,(Ae (s.r.set id (.arr false (.osl u) d (Oo xs))) id' q).len=(Ae s.r id' q).len:=by
     intro id' q;by_cases O:id'=id
     .subst O
      unfold Ae;have e:(s.r.set id' (.arr false (.osl u) d (Oo xs))).getD id' .dead=.arr false (.osl u) d (Oo xs):=by simp[M]
      rw[e,F];exact WY U q
     .rw[Bk O]
    have B:(s.r.set id (.arr false (.osl u) d (Oo xs))).map Ac.v=s.r.map Ac.v:=by
     rw[List.map_set,Abv,<-F];apply List.ext_getElem?
     grind
    refine⟨?_,λg=>?_⟩
    .show(MA l _).den=_
     rw[Z];unfold St.den;simp only[B]
     congr 1
     funext i
     exact Sl.v_lens hn _
    .refine Kp.trans (s1:=⟨s.t,s.r.set id (.arr false (.osl u) d (Oo xs))⟩) (g1:=g) (g2:=g) ⟨λi _ _=>rfl,λid' _ A=>?_,by simp⟩ (Y g) (λ_ h=>h) λ_ h=>h
     have J:id≠id':=by
      rintro rfl
      rw[F]at A;cases A
     simp only[gDE,List.getElem?_set_ne J]
  .exact HW l s
noncomputable def CN(H:Code->{R:Type}->St->(Exit->St->Option R)->Option R)(E:Bt):Code->{R:Type}->St->(Exit->St->Option R)->Option R
 |.skip,_,s,K=>K .normal s
 |.region _ ops false,_,s,K=>tops E.toEnv ops (X5 ops.size ops.toList) s (K .normal)
 |.region id ops true,_,s,K=>AaQ E.toEnv (headN E id ops) ops s (K .normal)
 |.seq a b,_,s,K=>CN H E a s λe s'=>match e with
  |.normal=>CN H E b s' K
  |.exit id=>K (.exit id) s'
  |.ret=>K .ret s'
  |.goto l=>K (.goto l) s'
  |_=>none
 |.cond c x y,_,s,K=>match s.ev c with
  |some (.one (.c .bool _ b))=>P7 b (CN H E x s K) (CN H E y s K)
  |_=>none
 |.block id b,_,s,K=>CN H E b s λe s'=>match e with
  |.exit i=>bif Nat.beq i id then K .normal s' else K (.exit i) s'
  |.normal=>K .normal s'
  |.ret=>K .ret s'
  |.goto l=>K (.goto l) s'
  |_=>none
 |.loop b,R,s0,K=>match MA (ozOf E.dn (BZ b)) s0 with
  |s=>match YP s E.lp (BZ b)with
  |(L,Rh)=>bif Ot (Bo b) L Rh s then(match Ab1 L Rh s s E.h.keep with
   |some cs=>match toX (cs.map (·.t)) cs with
    |some x=>II (Ar (λx=>CN H E b (BD true (Bo b) L Rh s (ofX (cs.map (·.t)) x)) (U9 L Rh s E.h.keep (cs.map (·.t)) K)) x) (Zk b L Rh s (cs.map (·.t)) K)
    |none=>none
   |none=>none)else none
 |.exit id,_,s,K=>K (.exit id) s
 |.label _,_,s,K=>K .normal s
 |.goto l,_,s,K=>K (.goto l) s
 |.ret,_,s,K=>K .ret s
 |.scope c,_,s,K=>H c s K
 |_,_,_,_=>none
@[reducible] def LO.fin1 {X R:Type}:LO X R->Option R
 |.ret r=>some r
 |_=>none
noncomputable def Ym(E:Bt):Code->{R:Type}->St->(Exit->St->Option R)->Option R:=CN (λ_ _ _ _=>.none) E
theorem Kk{t0:Nat->Sl}:∀(L:List Nat) (cs:List Dy) (t:Nat->Sl) (i:Nat),L.contains i=false->(KV t0 L cs t).1 i=t i
 |[],cs,t,i,_=>rfl
 |d::L,cs,t,i,h=>by
  rw[List.contains_cons,Bool.or_eq_false_iff]at h;unfold KV;rw[Kk L _ _ i h.2];have e:i≠d:=by
   grind
  exact Ba e
def Ib{r0:List Ac}:∀(Rh:List Nat) (cs:List Dy) (r:List Ac) (i:Nat),Rh.contains i=false->(Hv r0 Rh cs r).getD i .dead=r.getD i .dead
 |[],cs,r,i,_=>rfl
 |d::L,cs,r,i,h=>by
  rw[List.contains_cons,Bool.or_eq_false_iff]at h;unfold Hv;rw[Ib L _ _ i h.2]
  grind
def Ia{r0:List Ac}:∀(Rh:List Nat) (cs:List Dy) (r:List Ac),(Hv r0 Rh cs r).length=r.length
 |[],cs,r=>rfl
 |d::L,cs,r=>by unfold Hv;rw[Ia L,List.length_set]
theorem Xp{ro:Bool}(h:Ot b L Rh s=true):Kp (Au b) s (BD ro b L Rh s cs):=by
 unfold Ot at h;rw[bAE]at h;refine⟨λi J F=>?_,λid M A=>?_,?_⟩
 .have B:L.contains i=false:=by
   grind
  show(KV s.t L cs _).1 i=_;rw[Kk L _ _ i B];show(bif Au b i&&(s.t i).stay then s.t i else _)=_;rw[J,F];rfl
 .have B:Rh.contains id=false:=by
   grind
  show(Hv s.r Rh _ (bif ro then s.r.map BH else s.r)).getD id .dead=_;rw[Ib Rh _ _ id B];cases ro with
  |false=>rfl
  |true=>
   show(s.r.map BH).getD id .dead=_
   have e:(s.r.map BH).getD id .dead=BH (s.r.getD id .dead):=by
    simp only[gDE,List.getElem?_map];cases s.r[id]? <;>rfl
   rw[e];generalize s.r.getD id .dead=x at A;cases x with
   |dead=>rfl
   |obj ro l=>have A:ro=true:=A;subst A;rfl
   |arr ro t d xs=>have A:ro=true:=A;subst A;rfl
   |opt ro t d xs=>have A:ro=true:=A;subst A;rfl
   |mp ro k v xs=>have A:ro=true:=A;subst A;rfl
 .show s.r.length<=(Hv s.r Rh _ (bif ro then s.r.map BH else s.r)).length
  rw[Ia];cases ro<;>simp
theorem Vk{s':St}(M:Kp (Au b) (BD true b L Rh s cs) s'):
  (∀i,L.contains i=false->Au b i=true->(s.t i).stay=true->s'.t i=s.t i)/\
  (∀id,id<s.r.length->Rh.contains id=false->(s'.r.getD id .dead).v=(s.r.getD id .dead).v/\(s'.r.getD id .dead).len=(s.r.getD id .dead).len)/\
  (∀id,id<s.r.length->Rh.contains id=false->∀q:AW,((s'.r.getD id .dead).at' q).len=((s.r.getD id .dead).at' q).len):=by
 have W:∀id,id<s.r.length->Rh.contains id=false->s'.r.getD id .dead=BH (s.r.getD id .dead):=λid J F=>by
  have e:(BD true b L Rh s cs).r.getD id .dead=BH (s.r.getD id .dead):=by
   show(Hv s.r Rh _ (s.r.map BH)).getD id .dead=_;rw[Ib Rh _ _ id F]
   grind
  have B:(BH (s.r.getD id .dead)).isRo=true:=by cases s.r.getD id .dead<;>rfl
  have A:(BD true b L Rh s cs).r.length=s.r.length:=by
   show(Hv s.r Rh _ (s.r.map BH)).length=_;rw[Ia,List.length_map]
  rw[M.r id (by rw[A];exact J) (by rw[e];exact B),e]
 refine⟨λi F U O=>?_,λid J F=>?_,λid J F q=>by rw[W id J F];exact Zz q _ _ (JL _)⟩
 .have e:(BD true b L Rh s cs).t i=s.t i:=by
   show(KV s.t L cs _).1 i=_;rw[Kk L _ _ i F]
   grind
  rw[M.t i U (by rw[e];exact O),e]
 .have e:(BD true b L Rh s cs).r.getD id .dead=BH (s.r.getD id .dead):=by
   show(Hv s.r Rh _ (s.r.map BH)).getD id .dead=_;rw[Ib Rh _ _ id F]
   grind
  have B:(BH (s.r.getD id .dead)).isRo=true:=by cases s.r.getD id .dead<;>rfl
  have A:(BD true b L Rh s cs).r.length=s.r.length:=by
   show(Hv s.r Rh _ (s.r.map BH)).length=_;rw[Ia,List.length_map]
  rw[M.r id (by rw[A];exact J) (by rw[e];exact B),e]
  exact Ml _
theorem O3{R:Type}{K:Exit->St->Option R}{z:R}{s:St}:∀(l:List Nat) (id:Nat),brkK K l id s=some z->K (.exit id) s=some z
 |[],id,h=>by cases h
 |i::l,id,h=>by
  have h:(if id=i then K (.exit i) s else brkK K l id s)=some z:=h
  split at h
  .grind
  .exact O3 l id h
def AbG{P:Program}{H:Code->{R:Type}->St->(Exit->St->Option R)->Option R}(F:C.m<=E.h.keep){b:Code}
  (ih:∀{R:Type} (s:St) (K:Exit->St->Option R) (z:R) (Q:Exit->Act->World->Prop) (a:Act) (w:World),AU C E.h.n s.den a w->CN H E b s K=some z->(∀e s' U w',Kp (Au (Bo b)) s s'->AU C E.h.n s'.den U w'->K e s'=some z->Q e U w')->b.wp P Q a w)
  {R:Type}{s:St}{K:Exit->St->Option R}{z:R}{Q:Exit->Act->World->Prop}{a:Act}{w:World} (hs:AU C E.h.n s.den a w) {L Rh:List Nat} (hok:Ot (Bo b) L Rh s=true) {A:List Ty}{cs:List Dy} (hcs:Ab1 L Rh s s E.h.keep=some cs) {x0:(BV A).T} (hx0':ofX A x0=cs)
  (h:(Ar (λx=>CN H E b (BD true (Bo b) L Rh s (ofX A x)) (U9 L Rh s E.h.keep A K)) x0).bind (Zk b L Rh s A K)=some z)
  (hQ:∀e s' U w',Kp (Au (Bo b)) s s'->AU C E.h.n s'.den U w'->K e s'=some z->Q e U w'):(Code.loop b).wp P Q a w:=by
 obtain⟨hd0,hdd0,D0,ρ0,F0,hcr0⟩:=id hs;have hml:C.m<=s.r.length:=by have:=hcr0.ml;simpa [St.den]using this
 let body:(BV A).T->Option (LO (BV A).T R):=λx=>CN H E b (BD true (Bo b) L Rh s (ofX A x)) (U9 L Rh s E.h.keep A K)
 have h:(Ar body x0).bind (Zk b L Rh s A K)=some z:=h;cases hl:Ar body x0 with
 |none=>rw[hl]at h;cases h
 |some o0=>
  rw[hl]at h;have h:Zk b L Rh s A K o0=some z:=h;obtain⟨n0,hn0⟩:=C6.1 hl
  have h0:AU C E.h.n (BD true (Bo b) L Rh s (ofX A x0)).den a w:=by
   rw[hx0'];exact PX hs hcs F hml (λ_ _ _ _=>rfl) (λ_ _ _=>⟨rfl,rfl⟩) λ_ _ _ _=>rfl
  let I':Act->World->Prop:=λa w=>∃x n o,Dd body x o n/\Zk b L Rh s A K o=some z/\AU C E.h.n (BD true (Bo b) L Rh s (ofX A x)).den a w
  have hmin:∀(a:Act) (w:World),∃k,I' a w->(∃x n o,Dd body x o n/\Zk b L Rh s A K o=some z/\AU C E.h.n (BD true (Bo b) L Rh s (ofX A x)).den a w/\n=k)/\∀x n o,Dd body x o n->Zk b L Rh s A K o=some z->AU C E.h.n (BD true (Bo b) L Rh s (ofX A x)).den a w->k<=n:=by
   intro a w;by_cases hI:I' a w
   .obtain⟨x,n,o,g1,g2,g3⟩:=hI
    obtain⟨k,hk,hlt⟩:=Vc (p:=λk=>∃x n o,Dd body x o n/\Zk b L Rh s A K o=some z/\AU C E.h.n (BD true (Bo b) L Rh s (ofX A x)).den a w/\n=k) ⟨n,x,n,o,g1,g2,g3,rfl⟩
    exact⟨k,λ_=>⟨hk,λx n o g1 g2 g3=>Nat.le_of_not_lt λhl=>hlt n hl ⟨x,n,o,g1,g2,g3,rfl⟩⟩⟩
   .exact⟨0,λh=>absurd h hI⟩
  let μ':Act->World->Nat:=λa w=>Classical.choose (hmin a w)
  have hμ':=λa w hI=>Classical.choose_spec (hmin a w) hI
  refine wp_loop I' μ' ⟨x0,n0,o0,hn0,h,h0⟩ λa w hI=>?_
  obtain⟨⟨x,n,o,g1,g2,g3,hn⟩,_⟩:=hμ' a w hI;have hn:n=μ' a w:=hn
  -- the round's own answer
  have Y:∃lo,body x=some lo/\((∃y Z,lo=.next y/\Dd body y o Z/\n=Z+1)\/(lo=o)):=by
   cases g1 with
   |brk h'=>exact⟨_,h',.inr rfl⟩
   |ret h'=>exact⟨_,h',.inr rfl⟩
   |step h' h2=>exact⟨_,h',.inl ⟨_,_,rfl,h2,rfl⟩⟩
  obtain⟨lo,hlo,J⟩:=Y;refine ih _ _ lo _ a w g3 hlo λe s' U w' hk hs' B=>?_
  obtain⟨f1,f2,f3⟩:=Vk hk;have hk0:Kp (Au (Bo b)) s s':=Kp.trans (Xp hok) hk (λ_ h=>h) λ_ h=>h
  cases e with
  |normal=>
   unfold U9 at B;simp only at B;split at B
   case h_2=>cases B
   rename_i cs2 O;split at B
   case h_2=>cases B
   rename_i x2 hx2;cases B;rcases J with⟨y,Z,M,hl2,hnn⟩|M
   .cases M
    have W:AU C E.h.n (BD true (Bo b) L Rh s (ofX A x2)).den U w':=by
     rw[Yk _ _ _ hx2];exact PX hs' O F hml f1 f2 f3
    have hI2:I' U w':=⟨x2,Z,o,hl2,g2,W⟩;refine⟨hI2,?_⟩;have:=(hμ' U w' hI2).2 x2 Z o hl2 g2 W;have:μ' U w'<=Z:=this;omega
   .subst M
    cases g2
  |exit id=>
   unfold U9 at B;simp only at B;split at B
   case h_2=>cases B
   rename_i cs2 O;split at B
   case h_2=>cases B
   rename_i x2 hx2;cases B;rcases J with⟨y,Z,M,_⟩|M
   .cases M
   .subst M
    have g2:brkK K (ON b).eraseDups id (BD false (Bo b) L Rh s (ofX A x2))=some z:=g2
    have W:AU C E.h.n (BD false (Bo b) L Rh s (ofX A x2)).den U w':=by
     rw[Yk _ _ _ hx2];exact PX hs' O F hml f1 f2 f3
    exact hQ _ _ _ _ (Xp hok) W (O3 _ _ g2)
  |ret=>
   have B:(K .ret s').map LO.ret=some lo:=B;cases hkr:K .ret s' with
   |none=>rw[hkr]at B;cases B
   |some r=>
    rw[hkr]at B;cases B;rcases J with⟨y,Z,M,_⟩|M
    .cases M
    .subst M
     cases g2;exact hQ _ _ _ _ hk0 hs' hkr
  |goto l=>cases B
  |panic ch=>cases B
  |outgrown=>cases B
def Ni(P:Program)(E:Bt)(C:Ctx)(H:Code->{R:Type}->St->(Exit->St->Option R)->Option R):Prop:=
 ∀(c:Code) {R:Type} (s:St) (K:Exit->St->Option R) (z:R) (Q:Exit->Act->World->Prop) (a:Act) (w:World),AU C E.h.n s.den a w->H c s K=some z->
  (∀e s' A w',Kp (Au (Bo c)) s s'->AU C E.h.n s'.den A w'->K e s'=some z->Q e A w')->(Code.scope c).wp P Q a w
theorem VZ{H:Code->{R:Type}->St->(Exit->St->Option R)->Option R}(hE:EOK P E.toEnv)(hm:P.follows .mixedOrders=true)(hkeep:C.m<=E.h.keep)(hH:Ni P E C H):∀(c:Code) {R:Type} (s:St) (K:Exit->St->Option R) (z:R) (Q:Exit->Act->World->Prop) (a:Act) (w:World),AU C E.h.n s.den a w->CN H E c s K=some z->
  (∀e s' W w',Kp (Au (Bo c)) s s'->AU C E.h.n s'.den W w'->K e s'=some z->Q e W w')->c.wp P Q a w:=by
 intro c
 induction c with
 |skip=>intro R s K z Q a w J h A;exact wp_skip (A _ _ _ _ (Kp.refl _ _) J h)
 |region id ops draw=>
  intro R s K z Q a w J h A;cases draw with
  |false=>
   have h:tops E.toEnv ops (X5 ops.size ops.toList) s (K .normal)=some z:=h;refine wp_region_list ?_;have:=VU hE (ops:=ops) (Q:=Q) _ s a w J h λs' W w' O B M=>A .normal s' W w' (by rw[Cq]at O;exact O) B M
   rw[Cq]at this;exact this
  |true=>exact Yn hE hm J h λs' W w' O B M=>A .normal s' W w' O B M
 |seq x y ihx ihy=>
  intro R s K z Q a w J h A
  have Y:∀i,Au (Bo (.seq x y)) i=true->Au (Bo x) i=true/\Au (Bo y) i=true:=λi U=>by
   have U:Au (Bo x++Bo y) i=true:=U;rw[J5,bAE]at U;exact U
  refine wp_seq (ihx s _ z _ a w J h λe s' W w' O B M=>?_)
  have hk':Kp (Au (Bo (.seq x y))) s s':=O.weak λi U=>(Y i U).1
  cases e with
  |normal=>exact ihy s' K z Q W w' B M λe2 s2 a2 w2 hk2 hs2 hz2=>A e2 s2 a2 w2 (O.trans hk2 (λi U=>(Y i U).1) λi U=>(Y i U).2) hs2 hz2
  |exit id=>exact A _ _ _ _ hk' B M
  |ret=>exact A _ _ _ _ hk' B M
  |goto l=>exact A _ _ _ _ hk' B M
  |panic ch=>cases M
  |outgrown=>cases M
 |cond c x y ihx ihy=>
  intro R s K z Q a w J h A
  have Y:∀i,Au (Bo (.cond c x y)) i=true->Au (Bo x) i=true/\Au (Bo y) i=true:=λi U=>by
   have U:Au (Bo x++Bo y) i=true:=U;rw[J5,bAE]at U;exact U
  have h:(match s.ev c with
   |some (.one (.c .bool _ b))=>bif b then CN H E x s K else CN H E y s K
   |_=>none)=some z:=h
  split at h
  .rename_i d b hb
   obtain⟨hdd,D,ρ,F,hcr⟩:=J.2;have h1:=Bu hcr hdd c;rw[Bh hb]at h1;refine wp_cond (t:=b) h1.1 ?_;cases b with
   |true=>exact ihx s K z Q a w J h λe s' W w' O=>A e s' W w' (O.weak λi U=>(Y i U).1)
   |false=>exact ihy s K z Q a w J h λe s' W w' O=>A e s' W w' (O.weak λi U=>(Y i U).2)
  .cases h
 |block id b ih=>
  intro R s K z Q a w J h A;refine wp_block (ih s _ z _ a w J h λe s' W w' O B M=>?_)
  cases e with
  |exit id'=>
   simp only[Exit.inBlock];have M:(bif Nat.beq id' id then K .normal s' else K (.exit id') s')=some z:=M;by_cases he:id'=id
   .subst he
    rw[Nat.beq_refl]at M;rw[if_pos rfl];exact A _ _ _ _ O B M
   .rw[BE he]at M
    rw[if_neg he];exact A _ _ _ _ O B M
  |normal=>exact A _ _ _ _ O B M
  |ret=>exact A _ _ _ _ O B M
  |goto l=>exact A _ _ _ _ O B M
  |panic ch=>cases M
  |outgrown=>cases M
 |loop b ih=>
  intro R s0 K z Q a w J h A;unfold CN at h;obtain⟨s,hso⟩:∃s,s=MA (ozOf E.dn (BZ b)) s0:=⟨_,rfl⟩;rw[<-hso]at h;obtain⟨Z,hkp⟩:=HW (ozOf E.dn (BZ b)) s0;rw[<-hso]at Z hkp;rw[<-Z]at J;have A:∀e s' W w',Kp (Au (Bo (.loop b))) s s'->AU C E.h.n s'.den W w'->K e s'=some z->Q e W w':=λe s' W w' O=>A e s' W w' ((hkp _).trans O (λ_ h=>h) λ_ h=>h)
  have h:(match YP s E.lp (BZ b)with
   |(L,Rh)=>bif Ot (Bo b) L Rh s then(match Ab1 L Rh s s E.h.keep with
    |some cs=>match toX (cs.map (·.t)) cs with
     |some x=>II (Ar (λx=>CN H E b (BD true (Bo b) L Rh s (ofX (cs.map (·.t)) x)) (U9 L Rh s E.h.keep (cs.map (·.t)) K)) x) (Zk b L Rh s (cs.map (·.t)) K)
     |none=>none
    |none=>none)else none)=some z:=h
  split at h
  rename_i L Rh hlp;obtain⟨hok,h⟩:=A7 h;split at h
  case h_2=>cases h
  rename_i cs hcs;split at h
  case h_2=>cases h
  rename_i x0 hx0;have hx0':=Yk _ _ _ hx0;exact AbG hkeep ih J hok hcs hx0' h A
 |exit id=>intro R s K z Q a w J h A;exact wp_exit (A _ _ _ _ (Kp.refl _ _) J h)
 |label l=>intro R s K z Q a w J h A;exact wp_label (A _ _ _ _ (Kp.refl _ _) J h)
 |ret=>intro R s K z Q a w J h A;exact wp_ret (A _ _ _ _ (Kp.refl _ _) J h)
 |goto l=>intro R s K z Q a w J h A;exact wp_goto (A _ _ _ _ (Kp.refl _ _) J h)
 |rangeFunc f ps x y _ _=>intro R s K z Q a w J h A;cases h
 |scope c _=>intro R s K z Q a w J h A;exact hH c s K z Q a w J h A
 |refuse s=>intro R s K z Q a w J h A;cases h
theorem Ni.none{P:Program}{E:Bt}{C:Ctx}:Ni P E C (λ_ _ _ _=>.none):=λ_ _ _ _ _ _ _ _ _ h=>by grind
def L5(O:EOK P E.toEnv)(J:P.follows .mixedOrders=true)(A:C.m<=E.h.keep)(c:Code)(s:St)(K:Exit->St->Option R)(z:R)(Q:Exit->Act->World->Prop)(a:Act)(w:World)(F:AU C E.h.n s.den a w)(h:Ym E c s K=some z)
  (M:∀e s' B w',Kp (Au (Bo c)) s s'->AU C E.h.n s'.den B w'->K e s'=some z->Q e B w'):c.wp P Q a w:=
 VZ O J A Ni.none c s K z Q a w F h M
end Go.Ve


namespace Go.Ve
variable{P:Program}{s:St}
def divP:AW->AW->Bool
 |(_,k)::p,(_,l)::q=>!Nat.beq k l||divP p q
 |_,_=>false
theorem Ub{x:V}:∀{p q:AW} (_:divP p q=true) (v:V),sub q (upd p v x)=sub q v/\A1 p q=false
 |(i,k)::p,(j,l)::q,h0,v=>by
  have h:(!Nat.beq k l||divP p q)=true:=h0;by_cases e:k=l
  .subst e
   rw[Nat.beq_refl,Bool.not_true,Bool.false_or]at h;refine⟨?_,?_⟩
   .cases v with
    |nd s o sz n f=>
     show sub q (if j=i/\k=k then upd p (f i k) x else f j k)=sub q (f j k)
     by_cases A:j=i
     .subst A
      rw[if_pos ⟨rfl,rfl⟩];exact(Ub h (f j k)).1
     grind
    |_=>rfl
   .show(i==j&&k==k&&A1 p q)=false
    rw[(Ub (x:=x) h v).2,Bool.and_false]
  .refine⟨?_,?_⟩
   .cases v with
    |nd s o sz n f=>
     show sub q (if j=i/\l=k then upd p (f i k) x else f j l)=sub q (f j l)
     grind
    |_=>rfl
   .show(i==j&&k==l&&A1 p q)=false
    grind
 |[],_,h,_=>by cases h
 |_::_,[],h,_=>by cases h
def C9:List Cl->List (Nat×AW)
 |[]=>[]
 |.rf id p::l=>(id,p)::C9 l
 |_::l=>C9 l
def Ua(a b:Nat×AW):Bool:=!Nat.beq a.1 b.1||divP a.2 b.2
def OW:List (Nat×AW)->Bool
 |[]=>true
 |a::l=>l.all (Ua a)&&OW l
def AaT(r:List Ac):Cl->Option Cl
 |.c t d x=>some (.c t d x)
 |.nil=>some .nil
 |.nilp=>some .nilp
 |.rf id p=>match Ae r id p with
  |.arr _ t d xs=>some (.c (.sl t) (d+1) xs)
  |_=>none
 |_=>none
def Nv(r:List Ac):List Cl->Option (List Cl)
 |[]=>some []
 |y::l=>match AaT r y with
  |some z=>match Nv r l with
   |some m=>some (z::m)
   |none=>none
  |none=>none
def QR{id:Nat}{q:AW}:∀{l:List Cl},Cl.rf id q∈l->(id,q)∈C9 l
 |[],h=>by grind
 |z::l,h=>by
  rcases List.mem_cons.1 h with h|h
  .subst h;exact List.mem_cons_self ..
  .have:=QR h
   cases z<;>first|trivial|exact mCM _ this
def HG{r:List Ac}{y:Cl}:∀{l A:List Cl},Nv r l=some A->y∈l->∃z,AaT r y=some z
 |[],_,_,h=>by grind
 |z::l,A,hl,h=>by
  unfold Nv at hl;split at hl
  case h_2=>grind
  split at hl
  case h_2=>grind
  rename_i B e;rcases List.mem_cons.1 h with h|h
  .grind
  .exact HG e h
def AaO{m id:Nat}{p:AW}{n:Nat}{e σ:List V}:tkL (m+1) (V.rs id p 0 n::e) σ=(match sub p (σ.getD id .dead)with
   |.nd true true sz A f=>if 0=0/\n=A then .nd true true sz A f::tkL m (e.map λv=>AP σ.length [] (rrV id p σ.length v)) (σ.set id (upd p (σ.getD id .dead) .dead)++[.dead])else .dead::tkL m e σ
   |_=>.dead::tkL m e σ):=rfl
theorem tkL_v(r:List Ac):∀(l l':List Cl) (m:Nat) (σ:List V),l.length<=m->l.all Cl.plain=true->Nv r l=some l'->OW (C9 l)=true->
  (∀id p,(id,p)∈C9 l->sub p (σ.getD id .dead)=(Ae r id p).v/\id<σ.length)->tkL m (l.map (Cl.v r)) σ=l'.map Cl.v0:=by
 intro l
 induction l with
 |nil=>intro l' m σ _ _ h _ _;cases h;cases m<;>rfl
 |cons y l ih=>
  intro l' m σ hm hp h hd M;cases m with
  |zero=>simp at hm
  |succ m=>
   simp only[List.length_cons]at hm;rw[List.all_cons,bAE]at hp;unfold Nv at h;split at h
   case h_2=>cases h
   rename_i z A;split at h
   case h_2=>cases h
   rename_i l1 J;cases h
   have plainly:∀v:V,y.v r=v->v=z.v0->C9 (y::l)=C9 l->(∀vs,tkL (m+1) (v::vs) σ=v::tkL m vs σ)->tkL (m+1) ((y::l).map (Cl.v r)) σ=(z::l1).map Cl.v0:=by
    intro v hv hvz W htk;rw[List.map_cons,List.map_cons,hv,htk,<-hvz]
    congr 1
    exact ih l1 m σ (by omega) hp.2 J (by rw[W]at hd;exact hd) λid p hm=>M id p (by rw[W];exact hm)
   cases y with
   |c t d x=>
    cases A;cases t<;>first|exact plainly _ rfl rfl rfl (λ_=>rfl)|cases hp.1
   |nil=>cases A;exact plainly _ rfl rfl rfl λ_=>rfl
   |nilp=>cases A;exact plainly _ rfl rfl rfl λ_=>rfl
   |nilf=>cases A
   |nilm=>cases A
   |rf id p=>
    unfold AaT at A;simp only at A;split at A
    case h_2=>cases A
    rename_i ro t d xs hn;cases A;have O:((C9 l).all (Ua (id,p))&&OW (C9 l))=true:=hd;rw[bAE]at O;obtain⟨hs,hid⟩:=M id p (List.mem_cons_self ..);rw[hn]at hs;have hs:sub p (σ.getD id .dead)=.nd true true t.w xs.length λi k=>(tyV t d (xs.getD i t.dflt)).getD k .dead:=hs
    rw[List.map_cons];show tkL (m+1) (V.rs id p 0 (Ae r id p).len::l.map (Cl.v r)) σ=_;rw[hn];show tkL (m+1) (V.rs id p 0 xs.length::l.map (Cl.v r)) σ=_
    have e:tkL (m+1) (V.rs id p 0 xs.length::l.map (Cl.v r)) σ=(V.nd true true t.w xs.length λi k=>(tyV t d (xs.getD i t.dflt)).getD k .dead)::
      tkL m ((l.map (Cl.v r)).map λv=>AP σ.length [] (rrV id p σ.length v)) (σ.set id (upd p (σ.getD id .dead) .dead)++[.dead]):=by
     rw[AaO,hs];exact if_pos ⟨rfl,rfl⟩
    rw[e,List.map_cons]
    congr 1
    -- the rest is as it was
    have U:(l.map (Cl.v r)).map (λv=>AP σ.length [] (rrV id p σ.length v))=l.map (Cl.v r):=by
     rw[List.map_map];refine List.map_congr_left λy hy=>?_
     show AP σ.length [] (rrV id p σ.length (y.v r))=y.v r;cases y with
     |c t d x=>cases t<;>first|rfl|exact(congrArg (AP σ.length []) ((Dw id p σ.length).osl (d:=d))).trans ((Be σ.length []).osl (d:=d))|exact(congrArg (AP σ.length []) ((Dw id p σ.length).clo (d:=d))).trans ((Be σ.length []).clo (d:=d))
     |dead=>rfl
     |nil=>rfl
     |nilp=>rfl
     |nilf=>rfl
     |nilm=>rfl
     |rf id' q=>
      have B:(id',q)∈C9 l:=QR hy;have F:=aET.1 O.1 _ B;have Y:=(M id' q (mCM _ B)).2
      have hn1:¬ (id'=id/\A1 p q=true):=by
       rintro ⟨h1,h2⟩
       unfold Ua at F;simp only[h1,Nat.beq_refl,Bool.not_true,Bool.false_or]at F;rw[(Ub (x:=.dead) F .dead).2]at h2;cases h2
      show AP σ.length [] (rrV id p σ.length (.rs id' q 0 (Ae r id' q).len))=_;simp only[rrV,if_neg hn1,AP];rw[if_neg (by rintro ⟨h,_⟩;omega)]
      rfl
     |rs id' q a b=>obtain⟨z,A⟩:=HG J hy;cases A
     |rp id' q a b=>obtain⟨z,A⟩:=HG J hy;cases A
     |rm id' q=>obtain⟨z,A⟩:=HG J hy;cases A
    rw[U];refine ih l1 m _ (by omega) hp.2 J O.2 λid' q B=>?_
    obtain⟨h1,h2⟩:=M id' q (mCM _ B);have F:=aET.1 O.1 _ B;refine⟨?_,by simp;omega⟩
    have Y:id'<(σ.set id (upd p (σ.getD id .dead) .dead)).length:=by simpa using h2
    rw[AE Y];by_cases Z:id=id'
    .subst Z
     rw[Ag hid,<-h1];unfold Ua at F;simp only[Nat.beq_refl,Bool.not_true,Bool.false_or]at F;exact(Ub F _).1
    .rw[Af Z,h1]
   |dead=>cases A
   |rs=>cases A
   |rp=>cases A
   |rm=>cases A
def AaS(r:List Ac):List Cl->Option (List Cl)
 |[.rp id [] 0 0]=>match r.getD id .dead with
  |.obj false l=>match DO l with
   |some ⟨t,x⟩=>bif l.any Cl.own then none else some [.c (.ptr t) 1 x]
   |none=>none
  |_=>none
 |[.rm id []]=>match r.getD id .dead with
  |.mp false kt e x=>some [.c (.mp kt e) 1 x]
  |_=>none
 |l=>Nv r l
theorem AaR{l m:List Cl}(e:AaS s.r l=some m)(h3:l.all Cl.plain=true)(hd:OW (C9 l)=true):tkL (l.map (Cl.v s.r)).length (l.map (Cl.v s.r)) s.den.σ=m.map Cl.v0:=by
 unfold AaS at e;split at e
 .rename_i id
  split at e
  case h_2=>cases e
  rename_i l W;split at e
  case h_2=>cases e
  rename_i t x hf;cases Z:l.any Cl.own with
  |true=>rw[Z]at e;cases e
  |false=>
  rw[Z]at e;cases e;have e1:=Ha _ _ hf
  have e2:(l.map Cl.v0).map frz=l.map Cl.v0:=by
   rw[List.map_map];refine List.map_congr_left λc hc=>Zd ?_
   have:=List.any_eq_false.1 Z c hc;simpa using this
  have e3:tyV t 0 x=l.map Cl.v0:=e1.trans e2
  have B:s.den.σ.getD id .dead=Bi true (l.map Cl.v0):=by
   show(s.r.map Ac.v).getD id .dead=_;rw[Aq,W];rfl
  show(match sub [] (s.den.σ.getD id .dead)with
   |.nd false true sz n f=>if 0=0/\0=0 then V.nd false true sz n f::[]else [.dead]
   |_=>[.dead])=[Bi (decide (0<1)) (tyV t 0 x)]
  rw[B,e3];rfl
 .rename_i id
  split at e
  case h_2=>cases e
  rename_i kt vt x W;cases e;have B:s.den.σ.getD id .dead=mpV true kt vt x:=by
   show(s.r.map Ac.v).getD id .dead=_;rw[Aq,W];rfl
  show(match sub [] (s.den.σ.getD id .dead)with
   |.mp true l=>V.mp true l::[]
   |_=>[.dead])=[mpV (decide (0<1)) kt vt x]
  rw[B];rfl
 .have Y:∀id p,(id,p)∈C9 l->Ae s.r id p≠.dead:=by
   intro id p
   have key:∀(l U:List Cl),Nv s.r l=some U->(id,p)∈C9 l->Ae s.r id p≠.dead:=by
    intro l
    induction l with
    |nil=>intro U _ h;cases h
    |cons y l ih=>
     intro U O e;unfold Nv at O;split at O
     case h_2=>cases O
     rename_i z1 A;split at O
     case h_2=>cases O
     rename_i l2 M;cases y with
     |rf id' q=>
      rcases List.mem_cons.1 e with h|h
      .cases h
       intro hx
       have A:(match Ae s.r id p with
        |.arr _ t d xs=>some (Cl.c (.sl t) (d+1) xs)
        |_=>none)=some z1:=A
       rw[hx]at A;cases A
      .exact ih l2 M h
     |_=>exact ih l2 M e
   exact key _ _ e
  refine tkL_v s.r l m (l.map (Cl.v s.r)).length s.den.σ (by simp) h3 e hd λid p J=>?_
  have F:=Y id p J;refine⟨A5 F,?_⟩;show id<(s.r.map Ac.v).length;rw[List.length_map];rcases Nat.lt_or_ge id s.r.length with h|h
  .exact h
  .exfalso
   apply F;unfold Ae;rw[gDE,List.getElem?_eq_none h];exact C1 p
def retV1(Θ:Tab)(s:St):ResultVar->Option Sl
 |.tmp t=>some (s.t t)
 |.cell a t=>match We s (Θ.look t) (s.ev (.tmp a))with
  |some (.ok y)=>some y
  |_=>none
def YD(Θ:Tab)(s:St):List ResultVar->Option (List Sl)
 |[]=>some []
 |v::l=>match retV1 Θ s v with
  |some y=>match YD Θ s l with
   |some m=>some (y::m)
   |none=>none
  |none=>none
def cellsOf:List Sl->Option (List (Bool×List Cl))
 |[]=>some []
 |y::l=>match y with
  |.one c=>match(Sl.one c).cells,cellsOf l with
   |some m,some n=>some ((false,m)::n)
   |_,_=>none
  |.agg c=>match(Sl.agg c).cells,cellsOf l with
   |some m,some n=>some ((true,m)::n)
   |_,_=>none
  |_=>none
def Ln(b:Bool)(p:Bool×Nat×Ty)(l:List Cl):Option p.2.2.T:=bif b|| !isP p then J0 p.2.2 p.2.1 l else match l with
 |[.nilp]=>some p.2.2.dflt
 |_=>none
def QH(b:Bool):(rs:List (Bool×Nat×Ty))->List (Bool×List Cl)->List Cl->Option (RT rs).T
 |[],[],[]=>some ()
 |[p],[q],l=>bif p.1==q.1&&(p.1||p.2.2.one)&&Nat.beq l.length q.2.length then Ln b p l else none
 |p::A::rs,q::e::qs,l=>bif p.1==q.1&&(p.1||p.2.2.one)&&Nat.ble q.2.length l.length then(match Ln b p (l.take q.2.length)with
  |some x=>match QH b (A::rs) (e::qs) (l.drop q.2.length)with
   |some z=>some (x,z)
   |none=>none
  |none=>none)else none
 |_,_,_=>none
def Abf(b:Bool)(Θ:Tab)(e:List ResultVar)(rs:List (Bool×Nat×Ty))(s:St):Option (RT rs).T:=match YD Θ s e with
 |some ys=>match cellsOf ys with
  |some ls=>match AaS s.r (ls.flatMap (·.2))with
   |some m=>bif OW (C9 (ls.flatMap (·.2)))then QH b rs ls m else none
   |none=>none
  |none=>none
 |none=>none
def retK(Θ:Tab)(e:List ResultVar)(rs:List (Bool×Nat×Ty)):Exit->St->Option (RT rs).T
 |.normal,s=>Abf true Θ e rs s
 |.ret,s=>Abf true Θ e rs s
 |_,_=>none
def pS(b:Bool)(t:Ty)(x:t.T):Sl:=bif b then .agg (AA t 0 x)else .one (.c t 0 x)
def Ya:(l:List (Bool×Ty))->(PT l).T->List Sl
 |[],_=>[]
 |[p],x=>[pS p.1 p.2 x]
 |p::q::l,x=>pS p.1 p.2 x.1::Ya (q::l) x.2
def Pt(l:List (Bool×Ty))(x:(PT l).T):St:=⟨λi=>(Ya l x).getD i (.one .dead),[]⟩
noncomputable def tfun(E:Bt)(body:Code)(e:List ResultVar)(S:Sig)(x:(PT S.ps).T):Option (RT S.rs).T:=Ym E body (Pt S.ps x) (retK E.Θ e S.rs)
theorem O0{s:St}:∀(ys:List Sl) (ls:List (Bool×List Cl)),cellsOf ys=some ls->(ys.map (Sl.v s.r)).all Bw=true/\(ys.map (Sl.v s.r)).flatMap Go.Ve.cellsV=(ls.flatMap (·.2)).map (Cl.v s.r)/\(ls.flatMap (·.2)).all Cl.plain=true/\ls.length=ys.length
 |[],ls,h=>by cases h;exact⟨rfl,rfl,rfl,rfl⟩
 |y::ys,ls,h=>by
  have go:∀(b:Bool) (m:List Cl) (n:List (Bool×List Cl)),y.cells=some m->cellsOf ys=some n->ls=(b,m)::n->((y::ys).map (Sl.v s.r)).all Bw=true/\((y::ys).map (Sl.v s.r)).flatMap Go.Ve.cellsV=(ls.flatMap (·.2)).map (Cl.v s.r)/\(ls.flatMap (·.2)).all Cl.plain=true/\ls.length=(y::ys).length:=by
   intro b m n A hn e;subst e;obtain⟨F,O,B⟩:=C3 (r:=s.r) A;obtain⟨g1,g2,M,J⟩:=O0 ys n hn;refine⟨by rw[List.map_cons,List.all_cons,F,g1];rfl,?_,?_,by simp[J]⟩
   .grind
   .rw[List.flatMap_cons,List.all_append,B,M];rfl
  unfold cellsOf at h;split at h
  .split at h
   .rename_i m n A hn
    cases h;exact go _ _ _ A hn rfl
   .cases h
  .split at h
   .rename_i m n A hn
    cases h;exact go _ _ _ A hn rfl
   .cases h
  .cases h
theorem Hb{s:St}:∀(ys:List Sl) (ls:List (Bool×List Cl)),cellsOf ys=some ls->∀k,k<ls.length->((ls.getD k (false,[])).1=true/\(∃l,(ys.getD k (.one .dead)).v s.r=Aj l/\l.length=(ls.getD k (false,[])).2.length))\/((ls.getD k (false,[])).1=false/\(∀t n f,(ys.getD k (.one .dead)).v s.r≠.many t n f)/\(ls.getD k (false,[])).2.length=1)
 |[],ls,h,k,hk=>by cases h;simp at hk
 |y::ys,ls,h,k,hk=>by
  unfold cellsOf at h;split at h
  .rename_i c
   split at h
   .rename_i m n e hn
    cases h;cases k with
    |zero=>
     right;refine⟨rfl,?_,?_⟩
     .have e:(bif c.plain then some [c]else none)=some m:=e
      cases A:c.plain with
      |false=>rw[A]at e;cases e
      |true=>
       show ∀t n f,c.v s.r≠.many t n f;cases c with
       |c t d x=>cases t<;>first|(cases A;done)|(intro _ _ _ h;cases h)
       |_=>intro _ _ _ h;cases h
     .have e:(bif c.plain then some [c]else none)=some m:=e
      cases A:c.plain with
      |false=>rw[A]at e;cases e
      |true=>rw[A]at e;cases e;rfl
    |succ k=>exact Hb ys n hn k (by simpa using hk)
   .cases h
  .rename_i c
   split at h
   .rename_i m n e hn
    cases h;cases k with
    |zero=>
     left;refine⟨rfl,c.map (Cl.v s.r),rfl,?_⟩;have e:(bif c.all Cl.plain then some c else none)=some m:=e;cases A:c.all Cl.plain with
     |false=>rw[A]at e;cases e
     |true=>rw[A]at e;cases e;simp
    |succ k=>exact Hb ys n hn k (by simpa using hk)
   .cases h
  .cases h
def YR(b:Bool):∀(rs:List (Bool×Nat×Ty)) (ls:List (Bool×List Cl)) (l:List Cl) (z:(RT rs).T) (B:List V),QH b rs ls l=some z->B.length=ls.length->
  (∀k,k<ls.length->((ls.getD k (false,[])).1=true/\(∃m,B.getD k .dead=Aj m/\m.length=(ls.getD k (false,[])).2.length))\/((ls.getD k (false,[])).1=false/\(∀t n f,B.getD k .dead≠.many t n f)/\(ls.getD k (false,[])).2.length=1))->
  CG (Bm B (l.map Cl.v0)) (UO b rs z):=by
 -- one result
 have one:∀(p:Bool×Nat×Ty) (q:Bool×List Cl) (l:List Cl) (x:p.2.2.T) (v:V) (U:List V) (rest:List V),p.1=q.1->(p.1=true\/p.2.2.one=true)->l.length=q.2.length->Ln b p l=some x->
   ((q.1=true/\(∃m,v=Aj m/\m.length=q.2.length))\/(q.1=false/\(∀t n f,v≠.many t n f)/\q.2.length=1))->∃v',Bm (v::U) (l.map Cl.v0++rest)=v'::Bm U rest/\Sub v' (X3 b p x):=by
  intro p q l x v U rest h1 h2 A J O;unfold Ln at J;unfold X3;cases M:b|| !isP p with
  |false=>
   rw[M]at J;simp only[cond_false]at J;split at J
   case h_2=>cases J
   have hp1:p.1=false:=by
    rw[Bool.or_eq_false_iff,Bool.not_eq_false']at M;have:=M.2;unfold isP at this;rw[bAE,Bool.not_eq_true']at this;exact this.1
   rcases O with⟨W,_⟩|⟨_,hv,_⟩
   .rw[<-h1,hp1]at W;cases W
   .refine⟨.c (.pointer none),?_,Sub.refl _⟩
    show Bm (v::U) (.c (.pointer none)::rest)=_;cases v with
    |many t n f=>exact absurd rfl (hv _ _ _)
    |_=>rfl
  |true=>
  rw[M]at J;simp only[cond_true]at J⊢;obtain⟨g1,g2⟩:=DY J [];rw[g2]at g1;rcases O with⟨W,m,rfl,hm⟩|⟨W,hv,Y⟩
  .refine⟨Aj (l.map Cl.v0),?_,?_⟩
   .show Aj ((l.map Cl.v0++rest).take m.length)::Bm U ((l.map Cl.v0++rest).drop m.length)=_
    have e:(l.map Cl.v0).length=m.length:=by rw[List.length_map,A,hm]
    rw[<-e,List.take_left,List.drop_left]
   .rw[h1,W];exact g1.mk
  .have hp:p.1=false:=by rw[h1,W]
   have ho:p.2.2.one=true:=by rcases h2 with h|h;rw[hp]at h;cases h;exact h
   rw[BO ho]at g1
   match l,A with
   |[y],_=>
    refine⟨y.v0,?_,?_⟩
    .show Bm (v::U) (y.v0::rest)=_
     cases v with
     |many t n f=>exact absurd rfl (hv _ _ _)
     |_=>rfl
    .rw[hp];exact g1.1
   |[],A=>rw[Y]at A;cases A
   |_::_::_,A=>rw[Y]at A;simp at A
 intro rs
 induction rs with
 |nil=>
  intro ls l z B h A O;cases ls with
  |nil=>cases l with
   |nil=>cases B with
    |nil=>trivial
    |cons=>simp at A
   |cons=>cases h
  |cons=>cases h
 |cons p rs ih=>
  intro ls l z B h A O;cases rs with
  |nil=>
   cases ls with
   |nil=>cases h
   |cons q ls=>cases ls with
    |cons=>cases h
    |nil=>
     have h:(bif p.1==q.1&&(p.1||p.2.2.one)&&Nat.beq l.length q.2.length then Ln b p l else none)=some z:=h;obtain⟨F,h⟩:=A7 h;simp only[bAE,beq_iff_eq,Bool.or_eq_true]at F;cases B with
     |nil=>simp at A
     |cons v B=>cases B with
      |cons=>simp at A
      |nil=>
       obtain⟨v',e,hs⟩:=one p q l z v [] [] F.1.1 F.1.2 (bqE F.2) h (O 0 (by simp))
       rw[List.append_nil]at e;rw[e];exact⟨hs,trivial⟩
  |cons p' rs=>
   cases ls with
   |nil=>cases h
   |cons q ls=>cases ls with
    |nil=>cases h
    |cons q' ls=>
     have h:(bif p.1==q.1&&(p.1||p.2.2.one)&&Nat.ble q.2.length l.length then(match Ln b p (l.take q.2.length)with
      |some x=>match QH b (p'::rs) (q'::ls) (l.drop q.2.length)with
       |some z=>some (x,z)
       |none=>none
      |none=>none)else none:Option (RT (p::p'::rs)).T)=some z:=h
     cases F:(p.1==q.1&&(p.1||p.2.2.one)&&Nat.ble q.2.length l.length)with
     |false=>rw[F]at h;cases h
     |true=>
      rw[F]at h;simp only[bAE,beq_iff_eq,Bool.or_eq_true]at F;simp only[cond_true]at h;split at h
      case h_2=>cases h
      rename_i x J;split at h
      case h_2=>cases h
      rename_i z2 hz2;cases h;cases B with
      |nil=>simp at A
      |cons v B=>
       have Z:(l.take q.2.length).length=q.2.length:=by
        have:=blE F.2;rw[List.length_take];omega
       obtain⟨v',e,hs⟩:=one p q (l.take q.2.length) x v B ((l.drop q.2.length).map Cl.v0) F.1.1 F.1.2 Z J (O 0 (by simp))
       rw[<-List.map_append,List.take_append_drop]at e;rw[e];refine⟨hs,ih (q'::ls) (l.drop q.2.length) z2 B hz2 (by simpa using A) λk hk'=>?_⟩
       have:=O (k+1) (by simpa using hk')
       simpa using this
theorem Wv{P:Program}{Θ:Tab}(F:Θ.OK P){s:St}{K:List V->Prop}:∀(B:List ResultVar) (ys:List Sl) (e:List V),YD Θ s B=some ys->K (e++ys.map (Sl.v s.r))->VI P s.den B e K
 |[],ys,e,h,hK=>by cases h;show K e;grind
 |v::B,ys,e,h,hK=>by
  unfold YD at h;split at h
  case h_2=>cases h
  rename_i y J;split at h
  case h_2=>cases h
  rename_i m O;cases h;have A:VI P s.den B (e++[y.v s.r]) K:=Wv F B m _ O (by grind)
  cases v with
  |tmp t=>
   cases J;exact A
  |cell a t=>
   unfold retV1 at J;simp at J;split at J
   .rename_i W U
    cases J;exact Li (Qj F U trivial) λr0 M=>by rw[M];exact A
   grind
theorem NO{Θ:Tab}(J:Θ.OK P){F:List ResultVar}{rs:List (Bool×Nat×Ty)}{b:Bool}{z:(RT rs).T}(h:Abf b Θ F rs s=some z):VI P s.den F [] (XX s.den.σ (KM b rs z)):=by
 unfold Abf at h;split at h
 case h_2=>cases h
 rename_i ys M;split at h
 case h_2=>cases h
 rename_i ls B;split at h
 case h_2=>cases h
 rename_i m W;obtain⟨hd,h⟩:=A7 h;refine Wv J F ys [] M ?_;rw[List.nil_append];obtain⟨h1,h2,h3,Z⟩:=O0 (s:=s) ys ls B;refine⟨h1,?_⟩;rw[h2];have O:=AaR W h3 hd
 .rw[O]
  have A:=YR b rs ls m z (ys.map (Sl.v s.r)) h (by rw[List.length_map,Z]) λk Y=>?_
  .-- Lm
   have U:∀{a b:List V},CG a b->Sub (Ol a) (Ol b):=by
    intro a b e
    match a,b,e with
    |[],[],_=>exact Sub.refl _
    |[x],[y],e=>exact e.1
    |x::x'::a,y::y'::b,e=>
     show Sub (DH _) (DH _);unfold DH;rw[e.len];exact⟨_,rfl,λk _=>e.getD k⟩
    |[],_::_,e=>exact e.elim
    |_::_,[],e=>exact e.elim
    |[_],_::_::_,e=>exact e.2.elim
    |_::_::_,[_],e=>exact e.2.elim
   exact U A
  .have:=Hb (s:=s) ys ls B k Y
   simp_all
def pS_v(b:Bool)(t:Ty)(x:t.T):(pS b t x).v []=vOf b t 0 x:=by
 cases b with
 |true=>show Aj ((AA t 0 x).map (Cl.v []))=_;rw[Cl.v_c];rfl
 |false=>rfl
def XN:∀(l:List (Bool×Ty)) (x:(PT l).T),(Ya l x).map (Sl.v [])=CC l x
 |[],x=>rfl
 |[p],x=>congrArg (λv=>[v]) (pS_v p.1 p.2 x)
 |p::q::l,x=>by
  show(pS p.1 p.2 x.1).v []::(Ya (q::l) x.2).map (Sl.v [])=vOf p.1 p.2 0 x.1::CC (q::l) x.2;rw[XN (q::l) x.2,pS_v]
def Hc:∀(l:List (Bool×Ty)) (x:(PT l).T),(CC l x).length=l.length
 |[],_=>rfl
 |[_],_=>rfl
 |_::q::l,x=>by show(CC (q::l) x.2).length+1=_;rw[Hc];rfl
theorem ZG{E:Bt}{f:FuncId}{fn:Func}{body:Code}{S:Sig}(J:EOK P E.toEnv)(W:P.follows .mixedOrders=true)(Y:P.funcs[f]? =some fn)(Z:fn.body=some body)(hn:max S.ps.length fn.ntmps=E.h.n):
  FT P f S (tfun E body fn.results.toList S):=by
 intro x y B;refine FC_of Y Z (by rw[Hc];omega) λ_ C a w Q hCm O F=>?_
 have e:(Pt S.ps x).den=⟨λi=>(CC S.ps x).getD i .dead,[]⟩:=by
  show Ms.mk (λi=>((Ya S.ps x).getD i (.one .dead)).v []) []=_
  congr 1
  funext i
  rw[<-XN S.ps x,AG (a:=.one .dead) rfl]
 rw[<-e]at O;rw[<-Dx]at F;refine L5 J W (by omega) body (Pt S.ps x) _ y Q a w O B λe s' U w' _ A M=>?_
 cases e with
 |normal=>exact F .normal s'.den U w' (NO J.Θ M) A
 |ret=>exact F .ret s'.den U w' (NO J.Θ M) A
 |exit id=>trivial
 |goto l=>trivial
 |panic ch=>trivial
 |outgrown=>trivial
end Go.Ve


namespace Go.Ve
variable{P:Program}
noncomputable def tfn(E:Bt)(fn:Func)(S:Sig)(x:(PT S.ps).T):Option (RT S.rs).T:=match fn.body with
 |some b=>tfun E b fn.results.toList S x
 |none=>none
theorem A8{E:Bt}{f:FuncId}{fn:Func}{S:Sig}(B:Tab.OK P E.Θ)(F:KZ P E.Γ)(hW:∀e∈E.W,e.OK P)(hN:∀e∈E.N,e.OK P)(O:P.follows .mixedOrders=true)(Z:P.funcs[f]? =some fn)(hn:max S.ps.length fn.ntmps=E.h.n){g:(PT S.ps).T->Option (RT S.rs).T}(Y:tfn E fn S=g)(hU:∀e∈E.U,e.OK P:=by exact Dh)(hM:∀e∈E.M,e.OK P:=by exact MY):FT P f S g:=by
 subst Y;intro x y A;unfold tfn at A;cases J:fn.body with
 |none=>grind
 |some b=>
  rw[J]at A;exact ZG ⟨B,F,hW,hN,hU,hM⟩ O Z J hn x y A
def Ay:∀e∈([]:List EnN),e.OK P:=by simp
theorem Ax:KZ P []:=λ_ h=>by grind
def Ad{e:En}{l:List En}(J:Ai P e.f=true)(F:FT P e.f e.S e.g)(B:KZ P l):KZ P (e::l):=by
 intro x A;rcases List.mem_cons.1 A with rfl|A
 .trivial
 .exact B x A
end Go.Ve

