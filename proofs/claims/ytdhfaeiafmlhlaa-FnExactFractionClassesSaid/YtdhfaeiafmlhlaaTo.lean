/- The typed machine over code: what a body computes, as a function; that it does. -/
import Derived.Test.YtdhfaeiafmlhlaaTl
set_option linter.all false
namespace Go.Ve
variable{a b:Code}{C:Ctx}{cs:List Dy}{L Rh:List Nat}{d i:Nat}{P:Program}{s:St}{u:Ty}{R X:Type}
inductive LO(X R:Type) where
 |next (x:X)
 |brk (id:Nat) (x:X)
 |ret (r:R)
inductive Ct{X R:Type}(f:X->Option (LO X R)):X->LO X R->Nat->Prop where
 |brk {x y:X}{id:Nat}:f x=some (.brk id y)->Ct f x (.brk id y) 0
 |ret {x:X}{r:R}:f x=some (.ret r)->Ct f x (.ret r) 0
 |step {x y:X}{o:LO X R}{n:Nat}:f x=some (.next y)->Ct f y o n->Ct f x o (n+1)
noncomputable def Ar{X R:Type}(f:X->Option (LO X R))(x:X):Option (LO X R):=@dite _ (∃o n,Ct f x o n) (Classical.propDecidable _) (λh=>some (Classical.choose h)) λ_=>none
theorem Ct.det{f:X->Option (LO X R)}:∀{x:X}{o A:LO X R}{n B:Nat},Ct f x o n->Ct f x A B->o=A/\n=B:=by
 intro x o A n B h
 induction h generalizing A B with
 |brk h=>intro e;cases e with
  |brk e=>grind
  |ret e=>grind
  |step e _=>grind
 |ret h=>intro e;cases e with
  |brk e=>grind
  |ret e=>grind
  |step e _=>grind
 |step h _ F=>intro e;cases e with
  |brk e=>grind
  |ret e=>grind
  |step e J=>grind
theorem Cu{f:X->Option (LO X R)}{x:X}{o:LO X R}:Ar f x=some o↔ ∃n,Ct f x o n:=by
 unfold Ar;split
 .rename_i h
  obtain⟨n,e⟩:=Classical.choose_spec h;constructor
  .grind
  .rintro ⟨B,A⟩;rw[(e.det A).1]
 grind
def A1(f:X->Option (LO X R))(x:X):Ar f x=(f x).bind λo=>match o with
  |.next y=>Ar f y
  |.brk id y=>some (.brk id y)
  |.ret r=>some (.ret r):=by
 cases A:f x with
 |none=>
  show Ar f x=none;cases h:Ar f x with
  |none=>rfl
  |some o=>
   obtain⟨n,B⟩:=Cu.1 h;cases B with
   |brk e=>rw[A]at e;cases e
   |ret e=>rw[A]at e;cases e
   |step e _=>rw[A]at e;cases e
 |some o=>
  cases o with
  |brk id y=>exact Cu.2 ⟨0,.brk A⟩
  |ret r=>exact Cu.2 ⟨0,.ret A⟩
  |next y=>
   show Ar f x=Ar f y;cases h:Ar f y with
   |some o=>obtain⟨n,B⟩:=Cu.1 h;exact Cu.2 ⟨n+1,.step A B⟩
   |none=>
    cases J:Ar f x with
    |none=>rfl
    |some o=>
     obtain⟨n,B⟩:=Cu.1 J;cases B with
     |brk e=>rw[A]at e;cases e
     |ret e=>rw[A]at e;cases e
     |step e F=>rw[A]at e;cases e;rw[Cu.2 ⟨_,F⟩]at h;cases h
def Bm:List Ty->Ty
 |[]=>.unit
 |[t]=>t
 |t::u::l=>.pair t (Bm (u::l))
def toX:(e:List Ty)->List Dy->Option (Bm e).T
 |[],[]=>some ()
 |[t],[y]=>IP t y
 |t::u::l,y::ys=>match IP t y with
  |some x=>match toX (u::l) ys with
   |some z=>some (x,z)
   |none=>none
  |none=>none
 |_,_=>none
def ofX:(e:List Ty)->(Bm e).T->List Dy
 |[],_=>[]
 |[t],x=>[⟨t,x⟩]
 |t::u::l,x=>⟨t,x.1⟩::ofX (u::l) x.2
theorem U3:∀(e:List Ty) (cs:List Dy) (x:(Bm e).T),toX e cs=some x->ofX e x=cs
 |[],[],x,h=>rfl
 |[t],[y],x,h=>by show [⟨t,x⟩]=[y];rw[Ht h]
 |t::u::l,y::ys,x,h=>by
  have h:(match IP t y with
   |some x=>match toX (u::l) ys with
    |some z=>some (x,z)
    |none=>none
   |none=>none:Option (Bm (t::u::l)).T)=some x:=h
  split at h
  case h_2=>grind
  rename_i A F;split at h
  case h_2=>grind
  rename_i z B;cases h;show⟨t,A⟩::ofX (u::l) z=_;rw[Ht F,U3 (u::l) ys z B]
 |[],_::_,_,h=>by cases h
 |[_],[],_,h=>by cases h
 |[_],_::_::_,_,h=>by cases h
 |_::_::_,[],_,h=>by cases h
structure A8 extends Env where
 lp:List (Nat×List Nat×List Nat)
 dn:List (Nat×Nat)
variable{E:A8}
def Bz:Code->Nat
 |.region id _ _=>id
 |.seq a b=>match a with
  |.skip=>Bz b
  |.label _=>Bz b
  |a=>Bz a
 |.block _ b=>Bz b
 |.loop b=>Bz b
 |.scope b=>Bz b
 |_=>0
def AS:Code->List Oper
 |.region _ ops _=>ops.toList
 |.seq a b=>AS a++AS b
 |.cond _ a b=>AS a++AS b
 |.block _ b=>AS b
 |.loop b=>AS b
 |.scope b=>AS b
 |_=>[]
def O0:Code->List Nat
 |.exit id=>[id]
 |.seq a b=>O0 a++O0 b
 |.cond _ a b=>O0 a++O0 b
 |.block id b=>(O0 b).filter λi=>!Nat.beq i id
 |.loop b=>O0 b
 |_=>[]
def lookN{α:Type}(d:α):List (Nat×α)->Nat->α
 |[],_=>d
 |(i,x)::l,k=>bif Nat.beq i k then x else lookN d l k
def clId:Cl->List Nat
 |.rf id _=>[id]
 |.rp id _ _ _=>[id]
 |.rs id _ _ _=>[id]
 |.rm id _=>[id]
 |_=>[]
def slId:Sl->List Nat
 |.one c=>clId c
 |_=>[]
def condN(s:St)(c:Nat):Bool:=bif Nat.ble 2000000 c then(match slId (s.t (c-2000000))with
 |[]=>true
 |_=>false)else bif Nat.ble 1000000 c then(slId (s.t ((c-1000000)/1000))).any λi=>Nat.beq i ((c-1000000) % 1000)else true
def VI(s:St):List (Nat×List Nat×List Nat)->Nat->List Nat×List Nat
 |[],_=>([],[])
 |(i,L,R)::l,k=>bif Nat.beq i k then(bif R.all (condN s)then(L,R.filter λc=>!Nat.ble 1000000 c)else VI s l k)else VI s l k
def Yf(o:Oper):Bool:=match o.op with
 |.store _ _ _=>true
 |_=>false
def AcS(o:Oper):Bool:=match o.op with
 |.build _ _=>true
 |.buildSlice _ _ _=>true
 |_=>Yf o
def Yg(E:Env)(o:Oper):Bool:=Yf o||match XZ E o with
 |some (.app _ _ _ _)=>true
 |some (.cw _ _ _)=>true
 |_=>false
def WF:List Oper->Nat
 |[]=>0
 |o::l=>match o.op with
  |.assign _=>WF l+1
  |_=>0
def isNew(ops:Array Oper)(y:Nat):Bool:=ops.toList.any λo=>match o.op,o.dst with
 |.alloc _,some d=>Nat.beq d y
 |_,_=>false
def isMade(ops:Array Oper)(y:Nat):Bool:=ops.toList.any λo=>match o.dst with
 |some d=>Nat.beq d y&&(match o.op with
  |.buildSlice _ _ _=>true
  |.makeSlice _ _ _=>true
  |op=>(YQ op).isSome)
 |none=>false
def isLate(E:Env)(ops:Array Oper)(o:Oper):Bool:=match o.op with
 |.store _ (.tmp y) _=>!isNew ops y
 |.store _ _ _=>true
 |_=>match YQ o.op with
  |some (_,.tmp y,_)=>!isMade ops y
  |some _=>true
  |none=>Yg E o
def headD(E:Env)(ops:Array Oper):Nat:=bif ops.toList.any (Yg E)then ops.toList.findIdx (λo=>AcS o||Yg E o)else
 bif Is ops (ops.size-WF ops.toList.reverse)then ops.size-WF ops.toList.reverse else ops.size
def headN(E:A8)(id:Nat)(ops:Array Oper):Nat:=lookN (bif Is ops (headD E.toEnv ops)then headD E.toEnv ops else ops.toList.findIdx (isLate E.toEnv ops)) E.dn id
def brkK{R:Type}(K:Exit->St->Option R):List Nat->Nat->St->Option R
 |[],_,_=>none
 |i::l,id,s=>nif id i (K (.exit i) s) (brkK K l id s)
@[reducible] def BD {X R:Type} (o:Option R):Option (LO X R):=o.map .ret
@[reducible] def LO.fin {X R:Type} (f:Nat->X->Option R):LO X R->Option R
 |.brk id x=>f id x
 |.ret r=>some r
 |.next _=>none
def VS{R:Type}(L Rh:List Nat)(s:St)(keep:Nat)(A:List Ty)(K:Exit->St->Option R)(e:Exit)(s':St):Option (LO (Bm A).T R):=match e with
 |.normal=>match Aai L Rh s s' keep with
  |some cs=>match toX A cs with
   |some x=>some (.next x)
   |none=>none
  |none=>none
 |.exit id=>match Aai L Rh s s' keep with
  |some cs=>match toX A cs with
   |some x=>some (.brk id x)
   |none=>none
  |none=>none
 |.ret=>BD (K .ret s')
 |_=>none
def Aas{R:Type}(b:Code)(L Rh:List Nat)(s:St)(e:List Ty)(K:Exit->St->Option R):LO (Bm e).T R->Option R:=
 LO.fin λid x=>brkK K (O0 b).eraseDups id (Bf false (AS b) L Rh s (ofX e x))
def Kd(b:List Oper)(L Rh:List Nat)(s:St):Bool:=L.all (λd=>!(Aq b d&&(s.t d).stay))&&Rh.all λi=>!(s.r.getD i .dead).isRo
def MV:List Nat->St->St
 |[],s=>s
 |id::l,s=>match s.r.getD id .dead with
  |.arr false (.sl u) d xs=>bif Nat.beq u.dep 0 then MV l ⟨s.t,s.r.set id (.arr false (.osl u) d (OF xs))⟩else MV l s
  |_=>MV l s
def ozOf:List (Nat×Nat)->Nat->List Nat
 |[],_=>[]
 |(a,b)::l,k=>bif Nat.beq a (k+1000000)then b::ozOf l k else ozOf l k
def J7:∀(u:Ty) (d:Nat) (x:u.T),u.dep=0->∀c∈As u d x,∀ro,c.node ro=.dead
 |.int _,_,_,_,c,h,_=>by rw[List.mem_singleton.1 h];rfl
 |.bool,_,_,_,c,h,_=>by rw[List.mem_singleton.1 h];rfl
 |.str,_,_,_,c,h,_=>by rw[List.mem_singleton.1 h];rfl
 |.unit,_,_,_,c,h,_=>by cases h
 |.pair a b,d,x,hd,c,h,ro=>by
  simp[Ty.dep]at hd;rcases List.mem_append.1 h with h|h
  .exact J7 a d x.1 (by omega) c h ro
  .exact J7 b d x.2 (by omega) c h ro
 |.sl _,_,_,h,_,_,_=>by trivial
 |.ptr _,_,_,h,_,_,_=>by trivial
 |.clo _ _,_,_,h,_,_,_=>by trivial
 |.osl _,_,_,h,_,_,_=>by trivial
def Up{α:Type}(xs:List (List α))(i:Nat):(OF xs).getD i (some [])=some (xs.getD i []):=by
 unfold OF;simp
theorem Acx{xs:List (List u.T)}:(Ab.arr false (.osl u) d (OF xs)).v=(Ab.arr false (.sl u) d xs).v:=by
 show arr true 1 (tyV (.osl u) d) (some []) (OF xs)=arr true 1 (tyV (.sl u) d) [] xs;unfold arr;have e:(OF xs).length=xs.length:=by simp[OF]
 congr 1
 funext i k
 rw[Up];rfl
def XP{xs:List (List u.T)}(F:u.dep=0):∀q:AX,((Ab.arr false (.osl u) d (OF xs)).at' q).len=((Ab.arr false (.sl u) d xs).at' q).len
 |[]=>by show(OF xs).length=xs.length;simp[OF]
 |(i,0)::q=>by
  show(((Cl.c (.osl u) d ((OF xs).getD i (some []))).node false).at' q).len=(((Cl.c (.sl u) d (xs.getD i [])).node false).at' q).len;rw[Up];cases d with
  |zero=>rfl
  |succ d=>
   cases q with
   |nil=>rfl
   |cons a q=>
    obtain⟨A,k2⟩:=a;show(((([]:List Cl).getD k2 .dead).node false).at' q).len=((((As u d ((xs.getD i []).getD A u.dflt)).getD k2 .dead).node false).at' q).len
    have e:((As u d ((xs.getD i []).getD A u.dflt)).getD k2 .dead).node false=.dead:=by
     by_cases B:k2<(As u d ((xs.getD i []).getD A u.dflt)).length
     .rw[gDE,gEE B]
      exact J7 u d _ F _ (List.getElem_mem B) _
     .rw[gDE,List.getElem?_eq_none (by omega)];rfl
    rw[e];rfl
 |(i,k+1)::q=>by
  rfl
theorem HR:∀(l:List Nat) (s:St),(MV l s).den=s.den/\∀g,Kp g s (MV l s)
 |[],s=>⟨rfl,λg=>Kp.refl _ _⟩
 |id::l,s=>by
  unfold MV;split
  .rename_i u d xs F
   cases Z:Nat.beq u.dep 0 with
   |false=>exact HR l s
   |true=>
    have W:=bqE Z;obtain⟨h1,h2⟩:=HR l ⟨s.t,s.r.set id (.arr false (.osl u) d (OF xs))⟩;have O:id<s.r.length:=by
     grind
    have Y:∀id' q,(Af (s.r.set id (.arr false (.osl u) d (OF xs))) id' q).len=(Af s.r id' q).len:=by
     intro id' q;by_cases U:id'=id
     .subst U
      unfold Af;have e:(s.r.set id' (.arr false (.osl u) d (OF xs))).getD id' .dead=.arr false (.osl u) d (OF xs):=by simp[O]
      rw[e,F];exact XP W q
     .rw[Bq U]
    have B:(s.r.set id (.arr false (.osl u) d (OF xs))).map Ab.v=s.r.map Ab.v:=by
     rw[List.map_set,Acx,<-F];apply List.ext_getElem?
     grind
    refine⟨?_,λg=>?_⟩
    .show(MV l _).den=_
     rw[h1];unfold St.den;simp only[B]
     congr 1
     funext i
     exact Sl.v_lens Y _
    .refine Kp.trans (s1:=⟨s.t,s.r.set id (.arr false (.osl u) d (OF xs))⟩) (g1:=g) (g2:=g) ⟨λi _ _=>rfl,λid' _ A=>?_,by simp⟩ (h2 g) (λ_ h=>h) λ_ h=>h
     have J:id≠id':=by
      rintro rfl
      rw[F]at A;cases A
     simp only[gDE,List.getElem?_set_ne J]
  .exact HR l s
noncomputable def B3(H:Code->{R:Type}->St->(Exit->St->Option R)->Option R)(E:A8):Code->{R:Type}->St->(Exit->St->Option R)->Option R
 |.skip,_,s,K=>K .normal s
 |.region _ ops false,_,s,K=>tops E.toEnv ops (Y9 ops.size ops.toList) s (K .normal)
 |.region id ops true,_,s,K=>AbR E.toEnv (headN E id ops) ops s (K .normal)
 |.seq a b,_,s,K=>B3 H E a s λe s'=>match e with
  |.normal=>B3 H E b s' K
  |.exit id=>K (.exit id) s'
  |.ret=>K .ret s'
  |.goto l=>K (.goto l) s'
  |_=>none
 |.cond c x y,_,s,K=>match s.ev c with
  |some (.one (.c .bool _ b))=>Ph b (B3 H E x s K) (B3 H E y s K)
  |_=>none
 |.block id b,_,s,K=>B3 H E b s λe s'=>match e with
  |.exit i=>bif Nat.beq i id then K .normal s' else K (.exit i) s'
  |.normal=>K .normal s'
  |.ret=>K .ret s'
  |.goto l=>K (.goto l) s'
  |_=>none
 |.loop b,R,s0,K=>match MV (ozOf E.dn (Bz b)) s0 with
  |s=>match VI s E.lp (Bz b)with
  |(L,Rh)=>bif Kd (AS b) L Rh s then(match Aai L Rh s s E.h.keep with
   |some cs=>match toX (cs.map (·.t)) cs with
    |some x=>IE (Ar (λx=>B3 H E b (Bf true (AS b) L Rh s (ofX (cs.map (·.t)) x)) (VS L Rh s E.h.keep (cs.map (·.t)) K)) x) (Aas b L Rh s (cs.map (·.t)) K)
    |none=>none
   |none=>none)else none
 |.exit id,_,s,K=>K (.exit id) s
 |.label _,_,s,K=>K .normal s
 |.goto l,_,s,K=>K (.goto l) s
 |.ret,_,s,K=>K .ret s
 |.scope c,_,s,K=>H c s K
 |_,_,_,_=>none
def Bn:Code->List Nat
 |.seq a b=>Bn a++Bn b
 |.label l=>[l]
 |_=>[]
def BU:Code->Nat->Option Code
 |.seq a b,l=>match a with
  |.label e=>bif Nat.beq e l then some b else BU b l
  |_=>BU b l
 |_,_=>none
def Uk:List Nat->Bool
 |[]=>true
 |a::l=>!l.contains a&&Uk l
theorem OE:∀{l:List Nat},Uk l=true->l.Nodup
 |[],_=>List.nodup_nil
 |a::l,h=>by
  have h:(!l.contains a&&Uk l)=true:=h;rw[bAE,Bool.not_eq_true']at h;exact List.nodup_cons.2 ⟨λe=>by grind,OE h.2⟩
def Qd:Code->Bool
 |.label _=>true
 |_=>false
def Nm:Code->Bool
 |.seq a b=>(Qd a||(Bn a).isEmpty)&&Nm b
 |c=>(Bn c).isEmpty
@[reducible] def LO.fin1 {X R:Type}:LO X R->Option R
 |.ret r=>some r
 |_=>none
def V3{R:Type}(L Rh:List Nat)(s:St)(keep:Nat)(e:List Ty)(l:Nat)(s':St):Option (LO (Nat×(Bm e).T) R):=match Aai L Rh s s' keep with
 |some cs=>match toX e cs with
  |some x=>some (.next (l,x))
  |none=>none
 |none=>none
def Ac0{R:Type}(L Rh:List Nat)(s:St)(keep:Nat)(A:List Ty)(K:Exit->St->Option R)(e:Exit)(s':St):Option (LO (Nat×(Bm A).T) R):=match e with
 |.goto l=>V3 L Rh s keep A l s'
 |.normal=>BD (K .normal s')
 |.exit id=>BD (K (.exit id) s')
 |.ret=>BD (K .ret s')
 |_=>none
noncomputable def HB(E:A8):Code->{R:Type}->St->(Exit->St->Option R)->(Nat->St->Option R)->Option R
 |.seq a b,_,s,K,KL=>match a with
  |.label l=>KL l s
  |a=>B3 (λ_ _ _ _=>none) E a s λe s'=>match e with
   |.normal=>HB E b s' K KL
   |.exit id=>K (.exit id) s'
   |.ret=>K .ret s'
   |.goto l=>K (.goto l) s'
   |_=>none
 |c,_,s,K,_=>B3 (λ_ _ _ _=>none) E c s K
noncomputable def IZ(E:A8)(c:Code)(ops:List Oper)(L Rh:List Nat)(s:St)(e:List Ty){R:Type}(K:Exit->St->Option R)(l:Nat)(x:(Bm e).T):List Nat->Option (LO (Nat×(Bm e).T) R)
 |[]=>none
 |i::ls=>nif l i (match BU c i with
  |some A=>HB E A (Bf true ops L Rh s (ofX e x)) (Ac0 L Rh s E.h.keep e K) (V3 L Rh s E.h.keep e)
  |none=>none) (IZ E c ops L Rh s e K l x ls)
def Aa7{R:Type}(K:Exit->St->Option R)(e:Exit)(s:St):Option R:=match e with
 |.goto _=>none
 |e=>K e s
noncomputable def Xh(E:A8)(c:Code){R:Type}(s:St)(K:Exit->St->Option R):Option R:=bif Nm c&&Uk (Bn c)then HB E c s (Aa7 K) λl s1=>match BU c l with
  |some c1=>match VI s1 E.lp (Bz c)with
   |(L,Rh)=>bif Kd (AS c1) L Rh s1 then(match Aai L Rh s1 s1 E.h.keep with
    |some cs=>match toX (cs.map (·.t)) cs with
     |some x=>IE (Ar (λy=>IZ E c (AS c1) L Rh s1 (cs.map (·.t)) K y.1 y.2 (Bn c)) (l,x)) LO.fin1
     |none=>none
    |none=>none)else none
  |none=>none else none
noncomputable def WL(E:A8):Code->{R:Type}->St->(Exit->St->Option R)->Option R:=B3 (Xh E) E
theorem Ks{t0:Nat->Sl}:∀(L:List Nat) (cs:List Dy) (t:Nat->Sl) (i:Nat),L.contains i=false->(K7 t0 L cs t).1 i=t i
 |[],cs,t,i,_=>rfl
 |d::L,cs,t,i,h=>by
  rw[List.contains_cons,Bool.or_eq_false_iff]at h;unfold K7;rw[Ks L _ _ i h.2];have e:i≠d:=by
   grind
  exact A4 e
def H6{e:List Ab}:∀(Rh:List Nat) (cs:List Dy) (r:List Ab) (i:Nat),Rh.contains i=false->(Hr e Rh cs r).getD i .dead=r.getD i .dead
 |[],cs,r,i,_=>rfl
 |d::L,cs,r,i,h=>by
  rw[List.contains_cons,Bool.or_eq_false_iff]at h;unfold Hr;rw[H6 L _ _ i h.2]
  grind
def H5{e:List Ab}:∀(Rh:List Nat) (cs:List Dy) (r:List Ab),(Hr e Rh cs r).length=r.length
 |[],cs,r=>rfl
 |d::L,cs,r=>by unfold Hr;rw[H5 L,List.length_set]
theorem Qh{ro:Bool}{b:List Oper}(h:Kd b L Rh s=true):Kp (Aq b) s (Bf ro b L Rh s cs):=by
 unfold Kd at h;rw[bAE]at h;refine⟨λi hi F=>?_,λid J A=>?_,?_⟩
 .have B:L.contains i=false:=by
   grind
  show(K7 s.t L cs _).1 i=_;rw[Ks L _ _ i B];show(bif Aq b i&&(s.t i).stay then s.t i else _)=_;rw[hi,F];rfl
 .have B:Rh.contains id=false:=by
   grind
  show(Hr s.r Rh _ (bif ro then s.r.map BG else s.r)).getD id .dead=_;rw[H6 Rh _ _ id B];cases ro with
  |false=>rfl
  |true=>
   show(s.r.map BG).getD id .dead=_
   have e:(s.r.map BG).getD id .dead=BG (s.r.getD id .dead):=by
    simp only[gDE,List.getElem?_map];cases s.r[id]? <;>rfl
   rw[e];generalize s.r.getD id .dead=x at A;cases x with
   |dead=>rfl
   |obj ro l=>have A:ro=true:=A;subst A;rfl
   |arr ro t d xs=>have A:ro=true:=A;subst A;rfl
   |opt ro t d xs=>have A:ro=true:=A;subst A;rfl
   |mp ro k v xs=>have A:ro=true:=A;subst A;rfl
 .show s.r.length<=(Hr s.r Rh _ (bif ro then s.r.map BG else s.r)).length
  rw[H5];cases ro<;>simp
theorem LS{b:List Oper}{s':St}(O:Kp (Aq b) (Bf true b L Rh s cs) s'):
  (∀i,L.contains i=false->Aq b i=true->(s.t i).stay=true->s'.t i=s.t i)/\
  (∀id,id<s.r.length->Rh.contains id=false->(s'.r.getD id .dead).v=(s.r.getD id .dead).v/\(s'.r.getD id .dead).len=(s.r.getD id .dead).len)/\
  (∀id,id<s.r.length->Rh.contains id=false->∀q:AX,((s'.r.getD id .dead).at' q).len=((s.r.getD id .dead).at' q).len):=by
 have W:∀id,id<s.r.length->Rh.contains id=false->s'.r.getD id .dead=BG (s.r.getD id .dead):=λid J F=>by
  have e:(Bf true b L Rh s cs).r.getD id .dead=BG (s.r.getD id .dead):=by
   show(Hr s.r Rh _ (s.r.map BG)).getD id .dead=_;rw[H6 Rh _ _ id F]
   grind
  have B:(BG (s.r.getD id .dead)).isRo=true:=by cases s.r.getD id .dead<;>rfl
  have A:(Bf true b L Rh s cs).r.length=s.r.length:=by
   show(Hr s.r Rh _ (s.r.map BG)).length=_;rw[H5,List.length_map]
  rw[O.r id (by rw[A];exact J) (by rw[e];exact B),e]
 refine⟨λi F hi U=>?_,λid J F=>?_,λid J F q=>by rw[W id J F];exact AaC q _ _ (JN _)⟩
 .have e:(Bf true b L Rh s cs).t i=s.t i:=by
   show(K7 s.t L cs _).1 i=_;rw[Ks L _ _ i F]
   grind
  rw[O.t i hi (by rw[e];exact U),e]
 .have e:(Bf true b L Rh s cs).r.getD id .dead=BG (s.r.getD id .dead):=by
   show(Hr s.r Rh _ (s.r.map BG)).getD id .dead=_;rw[H6 Rh _ _ id F]
   grind
  have B:(BG (s.r.getD id .dead)).isRo=true:=by cases s.r.getD id .dead<;>rfl
  have A:(Bf true b L Rh s cs).r.length=s.r.length:=by
   show(Hr s.r Rh _ (s.r.map BG)).length=_;rw[H5,List.length_map]
  rw[O.r id (by rw[A];exact J) (by rw[e];exact B),e]
  exact MI _
theorem Pf{R:Type}{K:Exit->St->Option R}{z:R}{s:St}:∀(l:List Nat) (id:Nat),brkK K l id s=some z->K (.exit id) s=some z
 |[],id,h=>by cases h
 |i::l,id,h=>by
  have h:(if id=i then K (.exit i) s else brkK K l id s)=some z:=h
  split at h
  .grind
  .exact Pf l id h
theorem AcG{P:Program}{H:Code->{R:Type}->St->(Exit->St->Option R)->Option R}(F:C.m<=E.h.keep){b:Code}
  (ih:∀{R:Type} (s:St) (K:Exit->St->Option R) (z:R) (Q:Exit->Act->World->Prop) (a:Act) (w:World),AQ C E.h.n s.den a w->B3 H E b s K=some z->(∀e s' W w',Kp (Aq (AS b)) s s'->AQ C E.h.n s'.den W w'->K e s'=some z->Q e W w')->b.wp P Q a w)
  {R:Type}{s:St}{K:Exit->St->Option R}{z:R}{Q:Exit->Act->World->Prop}{a:Act}{w:World} (hs:AQ C E.h.n s.den a w) {L Rh:List Nat} (hok:Kd (AS b) L Rh s=true) {A:List Ty}{cs:List Dy} (hcs:Aai L Rh s s E.h.keep=some cs) {x0:(Bm A).T} (hx0':ofX A x0=cs)
  (h:(Ar (λx=>B3 H E b (Bf true (AS b) L Rh s (ofX A x)) (VS L Rh s E.h.keep A K)) x0).bind (Aas b L Rh s A K)=some z)
  (hQ:∀e s' W w',Kp (Aq (AS b)) s s'->AQ C E.h.n s'.den W w'->K e s'=some z->Q e W w'):(Code.loop b).wp P Q a w:=by
 obtain⟨hd0,hdd0,D0,ρ0,F0,hcr0⟩:=id hs;have hml:C.m<=s.r.length:=by have:=hcr0.ml;simpa [St.den]using this
 let body:(Bm A).T->Option (LO (Bm A).T R):=λx=>B3 H E b (Bf true (AS b) L Rh s (ofX A x)) (VS L Rh s E.h.keep A K)
 have h:(Ar body x0).bind (Aas b L Rh s A K)=some z:=h;cases hl:Ar body x0 with
 |none=>rw[hl]at h;cases h
 |some o0=>
  rw[hl]at h;have h:Aas b L Rh s A K o0=some z:=h;obtain⟨n0,hn0⟩:=Cu.1 hl
  have h0:AQ C E.h.n (Bf true (AS b) L Rh s (ofX A x0)).den a w:=by
   rw[hx0'];exact Kn hs hcs F hml (λ_ _ _ _=>rfl) (λ_ _ _=>⟨rfl,rfl⟩) λ_ _ _ _=>rfl
  let I':Act->World->Prop:=λa w=>∃x n o,Ct body x o n/\Aas b L Rh s A K o=some z/\AQ C E.h.n (Bf true (AS b) L Rh s (ofX A x)).den a w
  have hmin:∀(a:Act) (w:World),∃k,I' a w->(∃x n o,Ct body x o n/\Aas b L Rh s A K o=some z/\AQ C E.h.n (Bf true (AS b) L Rh s (ofX A x)).den a w/\n=k)/\∀x n o,Ct body x o n->Aas b L Rh s A K o=some z->AQ C E.h.n (Bf true (AS b) L Rh s (ofX A x)).den a w->k<=n:=by
   intro a w;by_cases hI:I' a w
   .obtain⟨x,n,o,g1,g2,g3⟩:=hI
    obtain⟨k,hk,hlt⟩:=M6 (p:=λk=>∃x n o,Ct body x o n/\Aas b L Rh s A K o=some z/\AQ C E.h.n (Bf true (AS b) L Rh s (ofX A x)).den a w/\n=k) ⟨n,x,n,o,g1,g2,g3,rfl⟩
    exact⟨k,λ_=>⟨hk,λx n o g1 g2 g3=>Nat.le_of_not_lt λhl=>hlt n hl ⟨x,n,o,g1,g2,g3,rfl⟩⟩⟩
   .exact⟨0,λh=>absurd h hI⟩
  let μ':Act->World->Nat:=λa w=>Classical.choose (hmin a w)
  have hμ':=λa w hI=>Classical.choose_spec (hmin a w) hI
  refine wp_loop I' μ' ⟨x0,n0,o0,hn0,h,h0⟩ λa w hI=>?_
  obtain⟨⟨x,n,o,g1,g2,g3,hn⟩,_⟩:=hμ' a w hI;have hn:n=μ' a w:=hn
  -- the round's own answer
  have Z:∃lo,body x=some lo/\((∃y n',lo=.next y/\Ct body y o n'/\n=n'+1)\/(lo=o)):=by
   cases g1 with
   |brk h'=>exact⟨_,h',.inr rfl⟩
   |ret h'=>exact⟨_,h',.inr rfl⟩
   |step h' h2=>exact⟨_,h',.inl ⟨_,_,rfl,h2,rfl⟩⟩
  obtain⟨lo,hlo,J⟩:=Z;refine ih _ _ lo _ a w g3 hlo λe s' W w' hk hs' B=>?_
  obtain⟨f1,f2,f3⟩:=LS hk;have hk0:Kp (Aq (AS b)) s s':=Kp.trans (Qh hok) hk (λ_ h=>h) λ_ h=>h
  cases e with
  |normal=>
   unfold VS at B;simp only at B;split at B
   case h_2=>cases B
   rename_i cs2 U;split at B
   case h_2=>cases B
   rename_i x2 hx2;cases B;rcases J with⟨y,n',O,hl2,hnn⟩|O
   .cases O
    have Y:AQ C E.h.n (Bf true (AS b) L Rh s (ofX A x2)).den W w':=by
     rw[U3 _ _ _ hx2];exact Kn hs' U F hml f1 f2 f3
    have hI2:I' W w':=⟨x2,n',o,hl2,g2,Y⟩;refine⟨hI2,?_⟩;have:=(hμ' W w' hI2).2 x2 n' o hl2 g2 Y;have:μ' W w'<=n':=this;omega
   .subst O
    cases g2
  |exit id=>
   unfold VS at B;simp only at B;split at B
   case h_2=>cases B
   rename_i cs2 U;split at B
   case h_2=>cases B
   rename_i x2 hx2;cases B;rcases J with⟨y,n',O,_⟩|O
   .cases O
   .subst O
    have g2:brkK K (O0 b).eraseDups id (Bf false (AS b) L Rh s (ofX A x2))=some z:=g2
    have Y:AQ C E.h.n (Bf false (AS b) L Rh s (ofX A x2)).den W w':=by
     rw[U3 _ _ _ hx2];exact Kn hs' U F hml f1 f2 f3
    exact hQ _ _ _ _ (Qh hok) Y (Pf _ _ g2)
  |ret=>
   have B:(K .ret s').map LO.ret=some lo:=B;cases hkr:K .ret s' with
   |none=>rw[hkr]at B;cases B
   |some r=>
    rw[hkr]at B;cases B;rcases J with⟨y,n',O,_⟩|O
    .cases O
    .subst O
     cases g2;exact hQ _ _ _ _ hk0 hs' hkr
  |goto l=>cases B
  |panic ch=>cases B
  |outgrown=>cases B
def KQ(P:Program)(E:A8)(C:Ctx)(H:Code->{R:Type}->St->(Exit->St->Option R)->Option R):Prop:=
 ∀(c:Code) {R:Type} (s:St) (K:Exit->St->Option R) (z:R) (Q:Exit->Act->World->Prop) (a:Act) (w:World),AQ C E.h.n s.den a w->H c s K=some z->
  (∀e s' A w',Kp (Aq (AS c)) s s'->AQ C E.h.n s'.den A w'->K e s'=some z->Q e A w')->(Code.scope c).wp P Q a w
theorem NI{H:Code->{R:Type}->St->(Exit->St->Option R)->Option R}(hE:EOK P E.toEnv)(hm:P.follows .mixedOrders=true)(hkeep:C.m<=E.h.keep)(hH:KQ P E C H):∀(c:Code) {R:Type} (s:St) (K:Exit->St->Option R) (z:R) (Q:Exit->Act->World->Prop) (a:Act) (w:World),AQ C E.h.n s.den a w->B3 H E c s K=some z->
  (∀e s' W w',Kp (Aq (AS c)) s s'->AQ C E.h.n s'.den W w'->K e s'=some z->Q e W w')->c.wp P Q a w:=by
 intro c
 induction c with
 |skip=>intro R s K z Q a w J h A;exact wp_skip (A _ _ _ _ (Kp.refl _ _) J h)
 |region id ops draw=>
  intro R s K z Q a w J h A;cases draw with
  |false=>
   have h:tops E.toEnv ops (Y9 ops.size ops.toList) s (K .normal)=some z:=h;refine wp_region_list ?_;have:=WH hE (ops:=ops) (Q:=Q) _ s a w J h λs' W w' U B O=>A .normal s' W w' (by rw[Cm]at U;exact U) B O
   rw[Cm]at this;exact this
  |true=>exact Zp hE hm J h λs' W w' U B O=>A .normal s' W w' U B O
 |seq x y ihx ihy=>
  intro R s K z Q a w J h A
  have Y:∀i,Aq (AS (.seq x y)) i=true->Aq (AS x) i=true/\Aq (AS y) i=true:=λi hi=>by
   have hi:Aq (AS x++AS y) i=true:=hi;rw[DP,bAE]at hi;exact hi
  refine wp_seq (ihx s _ z _ a w J h λe s' W w' U B O=>?_)
  have hk':Kp (Aq (AS (.seq x y))) s s':=U.weak λi hi=>(Y i hi).1
  cases e with
  |normal=>exact ihy s' K z Q W w' B O λe2 s2 a2 w2 hk2 hs2 hz2=>A e2 s2 a2 w2 (U.trans hk2 (λi hi=>(Y i hi).1) λi hi=>(Y i hi).2) hs2 hz2
  |exit id=>exact A _ _ _ _ hk' B O
  |ret=>exact A _ _ _ _ hk' B O
  |goto l=>exact A _ _ _ _ hk' B O
  |panic ch=>cases O
  |outgrown=>cases O
 |cond c x y ihx ihy=>
  intro R s K z Q a w J h A
  have Y:∀i,Aq (AS (.cond c x y)) i=true->Aq (AS x) i=true/\Aq (AS y) i=true:=λi hi=>by
   have hi:Aq (AS x++AS y) i=true:=hi;rw[DP,bAE]at hi;exact hi
  have h:(match s.ev c with
   |some (.one (.c .bool _ b))=>bif b then B3 H E x s K else B3 H E y s K
   |_=>none)=some z:=h
  split at h
  .rename_i d b hb
   obtain⟨hdd,D,ρ,F,hcr⟩:=J.2;have h1:=By hcr hdd c;rw[A7 hb]at h1;refine wp_cond (t:=b) h1.1 ?_;cases b with
   |true=>exact ihx s K z Q a w J h λe s' W w' U=>A e s' W w' (U.weak λi hi=>(Y i hi).1)
   |false=>exact ihy s K z Q a w J h λe s' W w' U=>A e s' W w' (U.weak λi hi=>(Y i hi).2)
  .cases h
 |block id b ih=>
  intro R s K z Q a w J h A;refine wp_block (ih s _ z _ a w J h λe s' W w' U B O=>?_)
  cases e with
  |exit id'=>
   simp only[Exit.inBlock];have O:(bif Nat.beq id' id then K .normal s' else K (.exit id') s')=some z:=O;by_cases he:id'=id
   .subst he
    rw[Nat.beq_refl]at O;rw[if_pos rfl];exact A _ _ _ _ U B O
   .rw[BB he]at O
    rw[if_neg he];exact A _ _ _ _ U B O
  |normal=>exact A _ _ _ _ U B O
  |ret=>exact A _ _ _ _ U B O
  |goto l=>exact A _ _ _ _ U B O
  |panic ch=>cases O
  |outgrown=>cases O
 |loop b ih=>
  intro R s0 K z Q a w J h A;unfold B3 at h;obtain⟨s,hso⟩:∃s,s=MV (ozOf E.dn (Bz b)) s0:=⟨_,rfl⟩;rw[<-hso]at h;obtain⟨Z,hkp⟩:=HR (ozOf E.dn (Bz b)) s0;rw[<-hso]at Z hkp;rw[<-Z]at J;have A:∀e s' W w',Kp (Aq (AS (.loop b))) s s'->AQ C E.h.n s'.den W w'->K e s'=some z->Q e W w':=λe s' W w' U=>A e s' W w' ((hkp _).trans U (λ_ h=>h) λ_ h=>h)
  have h:(match VI s E.lp (Bz b)with
   |(L,Rh)=>bif Kd (AS b) L Rh s then(match Aai L Rh s s E.h.keep with
    |some cs=>match toX (cs.map (·.t)) cs with
     |some x=>IE (Ar (λx=>B3 H E b (Bf true (AS b) L Rh s (ofX (cs.map (·.t)) x)) (VS L Rh s E.h.keep (cs.map (·.t)) K)) x) (Aas b L Rh s (cs.map (·.t)) K)
     |none=>none
    |none=>none)else none)=some z:=h
  split at h
  rename_i L Rh hlp;obtain⟨hok,h⟩:=A9 h;split at h
  case h_2=>cases h
  rename_i cs hcs;split at h
  case h_2=>cases h
  rename_i x0 hx0;have hx0':=U3 _ _ _ hx0;exact AcG hkeep ih J hok hcs hx0' h A
 |exit id=>intro R s K z Q a w J h A;exact wp_exit (A _ _ _ _ (Kp.refl _ _) J h)
 |label l=>intro R s K z Q a w J h A;exact wp_label (A _ _ _ _ (Kp.refl _ _) J h)
 |ret=>intro R s K z Q a w J h A;exact wp_ret (A _ _ _ _ (Kp.refl _ _) J h)
 |goto l=>intro R s K z Q a w J h A;exact wp_goto (A _ _ _ _ (Kp.refl _ _) J h)
 |rangeFunc f ps x y _ _=>intro R s K z Q a w J h A;cases h
 |scope c _=>intro R s K z Q a w J h A;exact hH c s K z Q a w J h A
 |refuse s=>intro R s K z Q a w J h A;cases h
theorem Mn{P:Program}{a:Act}{w:World}{Q:Exit->Act->World->Prop}{c:Code}(J:Nat->Act->World->Prop)(A:Nat->Act->World->Nat)
  (first:c.wp P (λe a w=>match e with
   |.goto l=>(∃r,findLabel c l=some r)/\J l a w
   |e=>Q e a w) a w)
  (pass:∀l r a w,findLabel c l=some r->J l a w->r.wp P (λe a' w'=>match e with
   |.goto l'=>(∃r',findLabel c l'=some r')/\J l' a' w'/\A l' a' w'<A l a w
   |e=>Q e a' w') a w):(Code.scope c).wp P Q a w:=by
 intro b k cs;have hg:∀l r,findLabel c l=some r->gotoIn l (.inScope c::k)=some (.code r:: .inScope c::k):=λl r hf=>by simp[gotoIn,hf]
 have key:∀n l r a w,findLabel c l=some r->A l a w=n->J l a w->∃e a' w',Q e a' w'/\Arrives P (lone (b.at a (.code r:: .inScope c::k)) cs w) b k cs e a' w':=by
  intro n
  induction n using Nat.strongRecOn with
  |_ n ih=>
   intro l r a w hf hn hJ;obtain⟨e,O,B,Y,F⟩:=pass l r a w hf hJ b (.inScope c::k) cs;cases e with
   |normal=>exact⟨.normal,O,B,Y,Steps.trans F (.one step_inScope)⟩
   |exit id=>exact⟨.exit id,O,B,Y,λk' hk=>F k' (by trivial)⟩
   |goto l'=>
    obtain⟨⟨r',hf'⟩,hJ',hlt⟩:=Y;obtain⟨e₂,a₂,Z,W,U⟩:=ih _ (by omega) l' r' O B hf' rfl hJ'
    exact⟨e₂,a₂,Z,W,.of_steps (F _ (hg l' r' hf')) U⟩
   |ret=>exact⟨_,O,B,Y,F⟩
   |panic ch=>exact⟨_,O,B,Y,F⟩
   |outgrown=>exact⟨_,O,B,Y,F⟩
 obtain⟨e,O,B,Y,F⟩:=first b (.inScope c::k) cs
 cases e with
 |normal=>exact⟨.normal,O,B,Y,.head step_scope (Steps.trans F (.one step_inScope))⟩
 |exit id=>exact⟨.exit id,O,B,Y,λk' hk=>.head step_scope (F k' (by simp[exitTo,hk]))⟩
 |goto l'=>
  obtain⟨⟨r',hf'⟩,hJ'⟩:=Y;obtain⟨e₂,a₂,Z,W,U⟩:=key _ l' r' O B hf' rfl hJ';exact⟨e₂,a₂,Z,W,.of_steps (.head step_scope (F _ (hg l' r' hf'))) U⟩
 |ret=>exact⟨_,O,B,Y,.of_steps (.one step_scope) F⟩
 |panic ch=>exact⟨_,O,B,Y,.of_steps (.one step_scope) F⟩
 |outgrown=>exact⟨_,O,B,Y,.of_steps (.one step_scope) F⟩
theorem Da(h:¬∃l,a=.label l)(l:Nat):BU (.seq a b) l=BU b l:=by
 cases a<;>first|rfl|grind
theorem U4(h:¬∃l,a=.label l)(s:St)(K:Exit->St->Option R)(KL:Nat->St->Option R):HB E (.seq a b) s K KL=B3 (λ_ _ _ _=>none) E a s λe s'=>match e with
   |.normal=>HB E b s' K KL
   |.exit id=>K (.exit id) s'
   |.ret=>K .ret s'
   |.goto l=>K (.goto l) s'
   |_=>none:=by
 cases a<;>first|rfl|grind
theorem Hq:∀(c:Code) (l:Nat),(Bn c).isEmpty=true->findLabel c l=none
 |.seq a b,l,h=>by
  have h:(Bn a++Bn b).isEmpty=true:=h;rw[List.isEmpty_iff,List.append_eq_nil_iff]at h;have h:(Bn a).isEmpty=true/\(Bn b).isEmpty=true:=⟨by grind,by grind⟩
  unfold findLabel;rw[Hq a l h.1,Hq b l h.2]
 |.label l',l,h=>by cases h
 |.skip,_,_=>rfl
 |.region ..,_,_=>rfl
 |.cond ..,_,_=>rfl
 |.block ..,_,_=>rfl
 |.loop ..,_,_=>rfl
 |.exit ..,_,_=>rfl
 |.goto ..,_,_=>rfl
 |.ret,_,_=>rfl
 |.scope ..,_,_=>rfl
 |.rangeFunc ..,_,_=>rfl
 |.refuse ..,_,_=>rfl
theorem Jl{P:Program}:∀(c b:Code) (l:Nat),Nm c=true->BU c l=some b->∃r,findLabel c l=some r/\∀Q a w,b.wp P Q a w->r.wp P Q a w
 |.seq a b',b,l,B,h=>by
  have B:((Qd a||(Bn a).isEmpty)&&Nm b')=true:=B;rw[bAE,Bool.or_eq_true]at B;by_cases U:∃A,a=.label A
  .obtain⟨A,rfl⟩:=U
   have h:(bif Nat.beq A l then some b' else BU b' l)=some b:=h;cases F:Nat.beq A l with
   |true=>
    rw[F]at h;have e:A=l:=bqE F;subst e;obtain rfl:b'=b:=Option.some.inj h;exact⟨.seq .skip b',by simp[findLabel],λQ a w W=>wp_seq (wp_skip W)⟩
   |false=>
    rw[F]at h;obtain⟨r,O,J⟩:=Jl b' b l B.2 h;refine⟨r,?_,J⟩;have e:A≠l:=λe=>by subst e;rw[Nat.beq_refl]at F;cases F
    simp[findLabel,e,O]
  .rw[Da U]at h
   obtain⟨r,O,J⟩:=Jl b' b l B.2 h;refine⟨r,?_,J⟩;have Y:findLabel a l=none:=by
    rcases B.1 with h'|h'
    .exfalso
     unfold Qd at h'
     grind
    .exact Hq a l h'
   unfold findLabel;rw[Y,O]
 |.label ..,_,_,_,h=>by cases h
 |.skip,_,_,_,h=>by cases h
 |.region ..,_,_,_,h=>by cases h
 |.cond ..,_,_,_,h=>by cases h
 |.block ..,_,_,_,h=>by cases h
 |.loop ..,_,_,_,h=>by cases h
 |.exit ..,_,_,_,h=>by cases h
 |.goto ..,_,_,_,h=>by cases h
 |.ret,_,_,_,h=>by cases h
 |.scope ..,_,_,_,h=>by cases h
 |.rangeFunc ..,_,_,_,h=>by cases h
 |.refuse ..,_,_,_,h=>by cases h
def LW:Code->Option Nat
 |.seq a b=>match a with
  |.label l=>some l
  |_=>LW b
 |_=>none
theorem LV(h:¬∃l,a=.label l):LW (.seq a b)=LW b:=by
 cases a<;>first|rfl|grind
theorem PN{r:Code}{l:Nat}:∀{c:Code},LW c=some l->BU c l=some b->BU c i=some r->(i=l/\r=b)\/BU b i=some r:=by
 intro c
 induction c with
 |seq a e W U=>
  intro O A J;by_cases B:∃F,a=.label F
  .obtain⟨F,rfl⟩:=B
   cases O;have A:(bif Nat.beq l l then some e else BU e l)=some b:=A;rw[Nat.beq_refl]at A;obtain rfl:e=b:=Option.some.inj A;have J:(bif Nat.beq l i then some e else BU e i)=some r:=J;cases Y:Nat.beq l i with
   |true=>simp_all
   |false=>grind
  .have e1:=LV (b:=e) B
   have Z:=Da (b:=e) B
   grind
 |_=>intro O;trivial
theorem JX:∀(c b:Code) (l:Nat),BU c l=some b->Aq (AS c) i=true->Aq (AS b) i=true:=by
 intro c
 induction c with
 |seq a A J F=>
  intro b l h hi;have hi:Aq (AS a++AS A) i=true:=hi;rw[DP,bAE]at hi;by_cases B:∃e,a=.label e
  .obtain⟨e,rfl⟩:=B
   have h:(bif Nat.beq e l then some A else BU A l)=some b:=h
   grind
  .rw[Da B]at h;grind
 |_=>intro b l h;cases h
theorem KQ.none{P:Program}{E:A8}{C:Ctx}:KQ P E C (λ_ _ _ _=>.none):=λ_ _ _ _ _ _ _ _ _ h=>by grind
theorem NH(hE:EOK P E.toEnv)(hm:P.follows .mixedOrders=true)(W:C.m<=E.h.keep):∀(c:Code) {R:Type} (s:St) (K:Exit->St->Option R) (KL:Nat->St->Option R) (z:R) (Q:Exit->Act->World->Prop) (a:Act) (w:World),AQ C E.h.n s.den a w->HB E c s K KL=some z->
  (∀e s' a' w',Kp (Aq (AS c)) s s'->AQ C E.h.n s'.den a' w'->K e s'=some z->Q e a' w')->
  (∀l b s' a' w',Kp (Aq (AS c)) s s'->AQ C E.h.n s'.den a' w'->KL l s'=some z->LW c=some l->BU c l=some b->b.wp P Q a' w')->c.wp P Q a w:=by
 have base:=NI hE hm W KQ.none;intro c
 induction c with
 |seq x y ihx ihy=>
  intro R s K KL z Q a w B h A hL;have F:=λi hi=>by
   have hi:Aq (AS x++AS y) i=true:=hi;rw[DP,bAE]at hi;exact hi
  by_cases hl:∃l,x=.label l
  .obtain⟨l,rfl⟩:=hl
   have h:KL l s=some z:=h;exact wp_seq (wp_label (hL l y s a w (Kp.refl _ _) B h rfl (by show(bif Nat.beq l l then some y else BU y l)=_;rw[Nat.beq_refl];rfl)))
  .have h:=(U4 hl s K KL).symm.trans h
   have e1:=LV (b:=y) hl;have e2:=Da (b:=y) hl;refine wp_seq (base x s _ z _ a w B h λe s' a' w' hk J hz=>?_)
   have Z:Kp (Aq (AS (.seq x y))) s s':=hk.weak λi hi=>(F i hi).1
   cases e with
   |normal=>
    exact ihy s' K KL z Q a' w' J hz (λe2 s2 a2 w2 Y U O=>A e2 s2 a2 w2 (hk.trans Y (λi hi=>(F i hi).1) λi hi=>(F i hi).2) U O)
     λl b s2 a2 w2 Y U O h1 h2=>hL l b s2 a2 w2 (hk.trans Y (λi hi=>(F i hi).1) λi hi=>(F i hi).2) U O (e1.trans h1) ((e2 l).trans h2)
   |exit id=>exact A _ _ _ _ Z J hz
   |ret=>exact A _ _ _ _ Z J hz
   |goto l=>exact A _ _ _ _ Z J hz
   |panic ch=>cases hz
   |outgrown=>cases hz
 |skip=>intro R s K KL z Q a w B h A _;exact base _ s K z Q a w B h A
 |region=>intro R s K KL z Q a w B h A _;exact base _ s K z Q a w B h A
 |cond=>intro R s K KL z Q a w B h A _;exact base _ s K z Q a w B h A
 |block=>intro R s K KL z Q a w B h A _;exact base _ s K z Q a w B h A
 |loop=>intro R s K KL z Q a w B h A _;exact base _ s K z Q a w B h A
 |exit=>intro R s K KL z Q a w B h A _;exact base _ s K z Q a w B h A
 |label=>intro R s K KL z Q a w B h A _;exact base _ s K z Q a w B h A
 |ret=>intro R s K KL z Q a w B h A _;exact base _ s K z Q a w B h A
 |goto=>intro R s K KL z Q a w B h A _;exact base _ s K z Q a w B h A
 |rangeFunc=>intro R s K KL z Q a w B h A _;exact base _ s K z Q a w B h A
 |scope=>intro R s K KL z Q a w B h A _;exact base _ s K z Q a w B h A
 |refuse=>intro R s K KL z Q a w B h A _;exact base _ s K z Q a w B h A
theorem JW{E:A8}{c:Code}{ops:List Oper}{L Rh:List Nat}{s:St}{e:List Ty}{R:Type}{K:Exit->St->Option R}{l:Nat}{x:(Bm e).T}{o:LO (Nat×(Bm e).T) R}:∀(ls:List Nat),IZ E c ops L Rh s e K l x ls=some o->
  ∃r,BU c l=some r/\HB E r (Bf true ops L Rh s (ofX e x)) (Ac0 L Rh s E.h.keep e K) (V3 L Rh s E.h.keep e)=some o
 |[],h=>by cases h
 |i::ls,h=>by
  have h:(if l=i then(match BU c i with
   |some A=>HB E A (Bf true ops L Rh s (ofX e x)) (Ac0 L Rh s E.h.keep e K) (V3 L Rh s E.h.keep e)
   |.none=>.none)else IZ E c ops L Rh s e K l x ls)=some o:=h
  split at h
  .grind
  .exact JW ls h
theorem Xm{o:Option R}{e:LO X R}(h:BD o=some e):∃z,o=some z/\e=.ret z:=by
 cases o with
 |none=>grind
 |some z=>grind
theorem Xn:∀{c b:Code}{l:Nat},BU c l=some b->l∈Bn c:=by
 intro c
 induction c with
 |seq a A J F=>
  intro b l h;show l∈Bn a++Bn A;by_cases B:∃e,a=.label e
  .obtain⟨e,rfl⟩:=B
   have h:(bif Nat.beq e l then some A else BU A l)=some b:=h;cases O:Nat.beq e l with
   |true=>rw[<-bqE O];simp[Bn]
   |false=>grind
  .rw[Da B]at h;grind
 |_=>intro b l h;cases h
theorem Vt:∀{c b r:Code}{l i:Nat},(Bn c).Nodup->BU c l=some b->BU b i=some r->BU c i=some r:=by
 intro c
 induction c with
 |seq a e W U=>
  intro b r l i A F Z;have A:(Bn a++Bn e).Nodup:=A;rw[List.nodup_append]at A;by_cases J:∃O,a=.label O
  .obtain⟨k,rfl⟩:=J
   have F:(bif Nat.beq k l then some e else BU e l)=some b:=F;have hi:BU e i=some r:=by
    grind
   have B:=A.2.2 k (by simp[Bn]) i (Xn hi)
   show(bif Nat.beq k i then some e else BU e i)=_;rw[BB B]
   grind
  .have Y:=Da (b:=e) J
   rw[Y]at F⊢
   grind
 |_=>intro b r l i _ h;cases h
theorem Xg(hE:EOK P E.toEnv)(hm:P.follows .mixedOrders=true)(O:C.m<=E.h.keep):KQ P E C (Xh E):=by
 intro c R s K z Q a w hs h hQ;unfold Xh at h;obtain⟨hch,h⟩:=A9 h;rw[bAE]at hch;obtain⟨hch,hnd⟩:=hch;have hnd:=OE hnd;have h:HB E c s (Aa7 K) _=some z:=h
 let D:Nat->Nat->Act->World->Prop:=λn l a w=>∃(l0:Nat) (c1:Code) (L Rh:List Nat) (s1:St) (F:List Ty) (x:(Bm F).T),LW c=some l0/\BU c l0=some c1/\Kd (AS c1) L Rh s1=true/\Kp (Aq (AS c)) s s1/\C.m<=s1.r.length/\
  Ct (λy:Nat×(Bm F).T=>IZ E c (AS c1) L Rh s1 F K y.1 y.2 (Bn c)) (l,x) (.ret z) n/\AQ C E.h.n (Bf true (AS c1) L Rh s1 (ofX F x)).den a w
 have claim:∀n l a w,D n l a w->∃b,BU c l=some b/\b.wp P (λe U w'=>match e with
   |.goto l'=>∃n',n'<n/\D n' l' U w'
   |e=>Q e U w') a w:=by
  intro n
  induction n using Nat.strongRecOn with
  |_ n ih=>
  intro l a w hD;obtain⟨l0,c1,L,Rh,s1,F,x,hf0,hr0,hok,hk1,hml,hT,hsr⟩:=hD
  have hround:∃lo,IZ E c (AS c1) L Rh s1 F K l x (Bn c)=some lo/\((∃y n',lo=.next y/\Ct (λy:Nat×(Bm F).T=>IZ E c (AS c1) L Rh s1 F K y.1 y.2 (Bn c)) y (.ret z) n'/\n=n'+1)\/(lo=.ret z)):=by
   cases hT with
   |ret h'=>exact⟨_,h',.inr rfl⟩
   |step h' Z=>exact⟨_,h',.inl ⟨_,_,rfl,Z,rfl⟩⟩
  obtain⟨lo,hlo,hcase⟩:=hround;obtain⟨b,hb,hex⟩:=JW _ hlo;refine⟨b,hb,?_⟩
  have hdst:∀i,Aq (AS c1) i=true->Aq (AS b) i=true:=λi hi=>by
   rcases PN (c:=c) hf0 hr0 hb with⟨_,rfl⟩|h
   .exact hi
   .exact JX c1 b l h hi
  have hgo:∀(l':Nat) (s':St) (U:Act) (w':World),Kp (Aq (AS b)) (Bf true (AS c1) L Rh s1 (ofX F x)) s'->AQ C E.h.n s'.den U w'->V3 L Rh s1 E.h.keep F l' s'=some lo->∃n',n'<n/\D n' l' U w':=by
   intro l' s' U w' W B hx;unfold V3 at hx;split at hx
   case h_2=>cases hx
   rename_i cs2 hcs2;split at hx
   case h_2=>cases hx
   rename_i x2 hx2;cases hx;rcases hcase with⟨y,n',he,hT',hn'⟩|he
   .cases he
    obtain⟨f1,f2,f3⟩:=LS (W.weak hdst);refine⟨n',by omega,l0,c1,L,Rh,s1,F,x2,hf0,hr0,hok,hk1,hml,hT',?_⟩
    rw[U3 _ _ _ hx2];exact Kn B hcs2 O hml f1 f2 f3
   .cases he
  have hk0:∀s',Kp (Aq (AS b)) (Bf true (AS c1) L Rh s1 (ofX F x)) s'->Kp (Aq (AS c)) s s':=λs' W=>
   Kp.trans hk1 (Kp.trans (Qh hok) W (g:=Aq (AS c)) (λi hi=>JX c c1 l0 hr0 hi) λi hi=>JX c b l hb hi) (λ_ h=>h) λ_ h=>h
  refine NH hE hm O b _ _ _ lo _ a w hsr hex (λe s' U w' W B A=>?_) λl' b' s' U w' W B A _ Z=>?_
  .have hret:∀e',BD (K e' s')=some lo->Q e' U w':=λe' A=>by
    obtain⟨z',h1,rfl⟩:=Xm A;rcases hcase with⟨_,_,he,_⟩|he
    .cases he
    .cases he
     exact hQ _ _ _ _ (hk0 s' W) B h1
   cases e with
   |goto l'=>exact hgo l' s' U w' W B A
   |normal=>exact hret _ A
   |exit id=>exact hret _ A
   |ret=>exact hret _ A
   |panic ch=>cases A
   |outgrown=>cases A
  .obtain⟨n',hn',hD'⟩:=hgo l' s' U w' W B A
   obtain⟨b2,hb2,hw2⟩:=ih n' hn' l' U w' hD';rw[Vt hnd hb Z]at hb2;cases hb2;refine _root_.Go.wp_mono hw2 λe a w J=>?_
   cases e with
   |goto l2=>obtain⟨n2,h1,Z⟩:=J;exact⟨n2,by omega,Z⟩
   |normal=>exact J
   |exit id=>exact J
   |ret=>exact J
   |panic ch=>exact J
   |outgrown=>exact J
 have hlab:∀n l a w,D n l a w->∃r,findLabel c l=some r:=λn l a w hD=>by
  obtain⟨b,hb,_⟩:=claim n l a w hD;obtain⟨r,hr,_⟩:=Jl (P:=P) c b l hch hb;exact⟨r,hr⟩
 have Y:∀(l:Nat) (a:Act) (w:World),∃k,(∃n,D n l a w)->D k l a w/\∀n,D n l a w->k<=n:=by
  intro l a w;by_cases hJ:∃n,D n l a w
  .obtain⟨k,W,hlt⟩:=M6 hJ
   exact⟨k,λ_=>⟨W,λn hn=>Nat.le_of_not_lt λhl=>hlt n hl hn⟩⟩
  .exact⟨0,λh=>absurd h hJ⟩
 refine Mn (λl a w=>∃n,D n l a w) (λl a w=>Classical.choose (Y l a w)) ?_ ?_
 .refine NH hE hm O c s _ _ z _ a w hs h (λe s' U w' W B A=>?_) λl b s1 U w' W B A h1 Z=>?_
  .cases e with
   |goto l=>cases A
   |normal=>exact hQ _ _ _ _ W B A
   |exit id=>exact hQ _ _ _ _ W B A
   |ret=>exact hQ _ _ _ _ W B A
   |panic ch=>exact hQ _ _ _ _ W B A
   |outgrown=>exact hQ _ _ _ _ W B A
  .rw[Z]at A
   generalize VI s1 E.lp (Bz c)=p at A;obtain⟨L,Rh⟩:=p;simp only at A;obtain⟨hok,A⟩:=A9 A;split at A
   case h_2=>cases A
   rename_i cs hcs;split at A
   case h_2=>cases A
   rename_i x hx;have hml:C.m<=s1.r.length:=by
    obtain⟨hd0,hdd0,D0,ρ0,F0,hcr0⟩:=id B;have:=hcr0.ml;simpa [St.den]using this
   cases hl:Ar (λy:Nat×(Bm (cs.map (·.t))).T=>IZ E c (AS b) L Rh s1 (cs.map (·.t)) K y.1 y.2 (Bn c)) (l,x)with
   |none=>rw[hl]at A;cases A
   |some o=>
   rw[hl]at A;cases o with
   |next=>cases A
   |brk=>cases A
   |ret r=>
   cases A;obtain⟨n,hn⟩:=Cu.1 hl;have hD:D n l U w':=by
    refine⟨l,b,L,Rh,s1,_,x,h1,Z,hok,W,hml,hn,?_⟩;rw[U3 _ _ _ hx];exact Kn B hcs O hml (λ_ _ _ _=>rfl) (λ_ _ _=>⟨rfl,rfl⟩) λ_ _ _ _=>rfl
   obtain⟨b2,hb2,hw2⟩:=claim n l U w' hD;rw[Z]at hb2;cases hb2;refine _root_.Go.wp_mono hw2 λe a w J=>?_
   cases e with
   |goto l2=>obtain⟨n2,h1,Z⟩:=J;exact⟨hlab _ _ _ _ Z,n2,Z⟩
   |normal=>exact J
   |exit id=>exact J
   |ret=>exact J
   |panic ch=>exact J
   |outgrown=>exact J
 .intro l r a w hf hJ
  obtain⟨hD,_⟩:=Classical.choose_spec (Y l a w) hJ;obtain⟨b,hb,hw⟩:=claim _ l a w hD;obtain⟨r',hr',hrw⟩:=Jl c b l hch hb;rw[hf]at hr';cases hr';refine hrw _ _ _ (_root_.Go.wp_mono hw λe U w' J=>?_)
  cases e with
  |goto l2=>
   obtain⟨n2,h1,Z⟩:=J;refine⟨hlab _ _ _ _ Z,⟨n2,Z⟩,?_⟩;have:=(Classical.choose_spec (Y l2 U w') ⟨n2,Z⟩).2 n2 Z;show Classical.choose (Y l2 U w')<Classical.choose (Y l a w);omega
  |normal=>exact J
  |exit id=>exact J
  |ret=>exact J
  |panic ch=>exact J
  |outgrown=>exact J
def Jg(F:EOK P E.toEnv)(B:P.follows .mixedOrders=true)(A:C.m<=E.h.keep)(c:Code)(s:St)(K:Exit->St->Option R)(z:R)(Q:Exit->Act->World->Prop)(a:Act)(w:World)(O:AQ C E.h.n s.den a w)(h:WL E c s K=some z)
  (U:∀e s' J w',Kp (Aq (AS c)) s s'->AQ C E.h.n s'.den J w'->K e s'=some z->Q e J w'):c.wp P Q a w:=
 NI F B A (Xg F B A) c s K z Q a w O h U
end Go.Ve


namespace Go.Ve
variable{E:A8}{b:Bool}{body:Code}{fn:Func}{f:FuncId}{rs:List (Bool×Nat×Ty)}{l:List Cl}{rv:List ResultVar}{P:Program}{S:Sig}{s:St}{Θ:Tab}
def divP:AX->AX->Bool
 |(_,k)::p,(_,l)::q=>!Nat.beq k l||divP p q
 |_,_=>false
theorem UJ{x:V}:∀{p q:AX} (_:divP p q=true) (v:V),sub q (upd p v x)=sub q v/\AT p q=false
 |(i,k)::p,(j,l)::q,h0,v=>by
  have h:(!Nat.beq k l||divP p q)=true:=h0;by_cases e:k=l
  .subst e
   rw[Nat.beq_refl,Bool.not_true,Bool.false_or]at h;refine⟨?_,?_⟩
   .cases v with
    |nd s o sz n f=>
     show sub q (if j=i/\k=k then upd p (f i k) x else f j k)=sub q (f j k)
     by_cases A:j=i
     .subst A
      rw[if_pos ⟨rfl,rfl⟩];exact(UJ h (f j k)).1
     grind
    |_=>rfl
   .show(i==j&&k==k&&AT p q)=false
    rw[(UJ (x:=x) h v).2,Bool.and_false]
  .refine⟨?_,?_⟩
   .cases v with
    |nd s o sz n f=>
     show sub q (if j=i/\l=k then upd p (f i k) x else f j l)=sub q (f j l)
     grind
    |_=>rfl
   .show(i==j&&k==l&&AT p q)=false
    grind
 |[],_,h,_=>by cases h
 |_::_,[],h,_=>by cases h
def CU:List Cl->List (Nat×AX)
 |[]=>[]
 |.rf id p::l=>(id,p)::CU l
 |_::l=>CU l
def UH(a b:Nat×AX):Bool:=!Nat.beq a.1 b.1||divP a.2 b.2
def O9:List (Nat×AX)->Bool
 |[]=>true
 |a::l=>l.all (UH a)&&O9 l
def AbU(r:List Ab):Cl->Option Cl
 |.c t d x=>some (.c t d x)
 |.nil=>some .nil
 |.nilp=>some .nilp
 |.rf id p=>match Af r id p with
  |.arr _ t d xs=>some (.c (.sl t) (d+1) xs)
  |_=>none
 |_=>none
def NL(r:List Ab):List Cl->Option (List Cl)
 |[]=>some []
 |y::l=>match AbU r y with
  |some z=>match NL r l with
   |some m=>some (z::m)
   |none=>none
  |none=>none
def Un{id:Nat}{q:AX}:∀{l:List Cl},Cl.rf id q∈l->(id,q)∈CU l
 |[],h=>by grind
 |z::l,h=>by
  rcases List.mem_cons.1 h with h|h
  .subst h;exact List.mem_cons_self ..
  .have:=Un h
   cases z<;>first|trivial|exact mCM _ this
def HD{r:List Ab}{y:Cl}:∀{l A:List Cl},NL r l=some A->y∈l->∃z,AbU r y=some z
 |[],_,_,h=>by grind
 |z::l,A,hl,h=>by
  unfold NL at hl;split at hl
  case h_2=>grind
  split at hl
  case h_2=>grind
  rename_i B e;rcases List.mem_cons.1 h with h|h
  .grind
  .exact HD e h
def AbQ{m id:Nat}{p:AX}{n:Nat}{e σ:List V}:tkL (m+1) (V.rs id p 0 n::e) σ=(match sub p (σ.getD id .dead)with
   |.nd true true sz A f=>if 0=0/\n=A then .nd true true sz A f::tkL m (e.map λv=>AJ σ.length [] (rrV id p σ.length v)) (σ.set id (upd p (σ.getD id .dead) .dead)++[.dead])else .dead::tkL m e σ
   |_=>.dead::tkL m e σ):=rfl
theorem tkL_v(r:List Ab):∀(l l':List Cl) (m:Nat) (σ:List V),l.length<=m->l.all Cl.plain=true->NL r l=some l'->O9 (CU l)=true->
  (∀id p,(id,p)∈CU l->sub p (σ.getD id .dead)=(Af r id p).v/\id<σ.length)->tkL m (l.map (Cl.v r)) σ=l'.map Cl.v0:=by
 intro l
 induction l with
 |nil=>intro l' m σ _ _ h _ _;cases h;cases m<;>rfl
 |cons y l ih=>
  intro l' m σ hm hp h hd O;cases m with
  |zero=>simp at hm
  |succ m=>
   simp only[List.length_cons]at hm;rw[List.all_cons,bAE]at hp;unfold NL at h;split at h
   case h_2=>cases h
   rename_i z A;split at h
   case h_2=>cases h
   rename_i l1 J;cases h
   have plainly:∀v:V,y.v r=v->v=z.v0->CU (y::l)=CU l->(∀vs,tkL (m+1) (v::vs) σ=v::tkL m vs σ)->tkL (m+1) ((y::l).map (Cl.v r)) σ=(z::l1).map Cl.v0:=by
    intro v hv hvz Y htk;rw[List.map_cons,List.map_cons,hv,htk,<-hvz]
    congr 1
    exact ih l1 m σ (by omega) hp.2 J (by rw[Y]at hd;exact hd) λid p hm=>O id p (by rw[Y];exact hm)
   cases y with
   |c t d x=>
    cases A;cases t<;>first|exact plainly _ rfl rfl rfl (λ_=>rfl)|cases hp.1
   |nil=>cases A;exact plainly _ rfl rfl rfl λ_=>rfl
   |nilp=>cases A;exact plainly _ rfl rfl rfl λ_=>rfl
   |nilf=>cases A
   |nilm=>cases A
   |rf id p=>
    unfold AbU at A;simp only at A;split at A
    case h_2=>cases A
    rename_i ro t d xs hn;cases A;have U:((CU l).all (UH (id,p))&&O9 (CU l))=true:=hd;rw[bAE]at U;obtain⟨hs,hid⟩:=O id p (List.mem_cons_self ..);rw[hn]at hs;have hs:sub p (σ.getD id .dead)=.nd true true t.w xs.length λi k=>(tyV t d (xs.getD i t.dflt)).getD k .dead:=hs
    rw[List.map_cons];show tkL (m+1) (V.rs id p 0 (Af r id p).len::l.map (Cl.v r)) σ=_;rw[hn];show tkL (m+1) (V.rs id p 0 xs.length::l.map (Cl.v r)) σ=_
    have e:tkL (m+1) (V.rs id p 0 xs.length::l.map (Cl.v r)) σ=(V.nd true true t.w xs.length λi k=>(tyV t d (xs.getD i t.dflt)).getD k .dead)::
      tkL m ((l.map (Cl.v r)).map λv=>AJ σ.length [] (rrV id p σ.length v)) (σ.set id (upd p (σ.getD id .dead) .dead)++[.dead]):=by
     rw[AbQ,hs];exact if_pos ⟨rfl,rfl⟩
    rw[e,List.map_cons]
    congr 1
    -- the rest is as it was
    have W:(l.map (Cl.v r)).map (λv=>AJ σ.length [] (rrV id p σ.length v))=l.map (Cl.v r):=by
     rw[List.map_map];refine List.map_congr_left λy hy=>?_
     show AJ σ.length [] (rrV id p σ.length (y.v r))=y.v r;cases y with
     |c t d x=>cases t<;>first|rfl|exact(congrArg (AJ σ.length []) ((C2 id p σ.length).osl (d:=d))).trans ((Ba σ.length []).osl (d:=d))|exact(congrArg (AJ σ.length []) ((C2 id p σ.length).clo (d:=d))).trans ((Ba σ.length []).clo (d:=d))
     |dead=>rfl
     |nil=>rfl
     |nilp=>rfl
     |nilf=>rfl
     |nilm=>rfl
     |rf id' q=>
      have B:(id',q)∈CU l:=Un hy;have F:=aET.1 U.1 _ B;have Z:=(O id' q (mCM _ B)).2
      have hn1:¬ (id'=id/\AT p q=true):=by
       rintro ⟨h1,h2⟩
       unfold UH at F;simp only[h1,Nat.beq_refl,Bool.not_true,Bool.false_or]at F;rw[(UJ (x:=.dead) F .dead).2]at h2;cases h2
      show AJ σ.length [] (rrV id p σ.length (.rs id' q 0 (Af r id' q).len))=_;simp only[rrV,if_neg hn1,AJ];rw[if_neg (by rintro ⟨h,_⟩;omega)]
      rfl
     |rs id' q a b=>obtain⟨z,A⟩:=HD J hy;cases A
     |rp id' q a b=>obtain⟨z,A⟩:=HD J hy;cases A
     |rm id' q=>obtain⟨z,A⟩:=HD J hy;cases A
    rw[W];refine ih l1 m _ (by omega) hp.2 J U.2 λid' q B=>?_
    obtain⟨h1,h2⟩:=O id' q (mCM _ B);have F:=aET.1 U.1 _ B;refine⟨?_,by simp;omega⟩
    have Z:id'<(σ.set id (upd p (σ.getD id .dead) .dead)).length:=by simpa using h2
    rw[AD Z];by_cases hii:id=id'
    .subst hii
     rw[Ah hid,<-h1];unfold UH at F;simp only[Nat.beq_refl,Bool.not_true,Bool.false_or]at F;exact(UJ F _).1
    .rw[Ag hii,h1]
   |dead=>cases A
   |rs=>cases A
   |rp=>cases A
   |rm=>cases A
def AbT(r:List Ab):List Cl->Option (List Cl)
 |[.rp id [] 0 0]=>match r.getD id .dead with
  |.obj false l=>match DD l with
   |some ⟨t,x⟩=>bif l.any Cl.own then none else some [.c (.ptr t) 1 x]
   |none=>none
  |_=>none
 |l=>NL r l
theorem AbS{m:List Cl}(e:AbT s.r l=some m)(h3:l.all Cl.plain=true)(hd:O9 (CU l)=true):tkL (l.map (Cl.v s.r)).length (l.map (Cl.v s.r)) s.den.σ=m.map Cl.v0:=by
 unfold AbT at e;split at e
 .rename_i id
  split at e
  case h_2=>cases e
  rename_i l hr;split at e
  case h_2=>cases e
  rename_i t x hf;cases Z:l.any Cl.own with
  |true=>rw[Z]at e;cases e
  |false=>
  rw[Z]at e;cases e;have e1:=DX _ _ hf
  have e2:(l.map Cl.v0).map frz=l.map Cl.v0:=by
   rw[List.map_map];refine List.map_congr_left λc hc=>Aal ?_
   have:=List.any_eq_false.1 Z c hc;simpa using this
  have e3:tyV t 0 x=l.map Cl.v0:=e1.trans e2
  have W:s.den.σ.getD id .dead=Be true (l.map Cl.v0):=by
   show(s.r.map Ab.v).getD id .dead=_;rw[Aw,hr];rfl
  show(match sub [] (s.den.σ.getD id .dead)with
   |.nd false true sz n f=>if 0=0/\0=0 then V.nd false true sz n f::[]else [.dead]
   |_=>[.dead])=[Be (decide (0<1)) (tyV t 0 x)]
  rw[W,e3];rfl
 .have Y:∀id p,(id,p)∈CU l->Af s.r id p≠.dead:=by
   intro id p
   have key:∀(l U:List Cl),NL s.r l=some U->(id,p)∈CU l->Af s.r id p≠.dead:=by
    intro l
    induction l with
    |nil=>intro U _ h;cases h
    |cons y l ih=>
     intro U O e;unfold NL at O;split at O
     case h_2=>cases O
     rename_i z1 A;split at O
     case h_2=>cases O
     rename_i l2 J;cases y with
     |rf id' q=>
      rcases List.mem_cons.1 e with h|h
      .cases h
       intro hx
       have A:(match Af s.r id p with
        |.arr _ t d xs=>some (Cl.c (.sl t) (d+1) xs)
        |_=>none)=some z1:=A
       rw[hx]at A;cases A
      .exact ih l2 J h
     |_=>exact ih l2 J e
   exact key _ _ e
  refine tkL_v s.r l m (l.map (Cl.v s.r)).length s.den.σ (by simp) h3 e hd λid p F=>?_
  have B:=Y id p F;refine⟨AV B,?_⟩;show id<(s.r.map Ab.v).length;rw[List.length_map];rcases Nat.lt_or_ge id s.r.length with h|h
  .exact h
  .exfalso
   apply B;unfold Af;rw[gDE,List.getElem?_eq_none h];exact C8 p
def retV1(Θ:Tab)(s:St):ResultVar->Option Sl
 |.tmp t=>some (s.t t)
 |.cell a t=>match W0 s (Θ.look t) (s.ev (.tmp a))with
  |some (.ok y)=>some y
  |_=>none
def ZK(Θ:Tab)(s:St):List ResultVar->Option (List Sl)
 |[]=>some []
 |v::l=>match retV1 Θ s v with
  |some y=>match ZK Θ s l with
   |some m=>some (y::m)
   |none=>none
  |none=>none
def cellsOf:List Sl->Option (List (Bool×List Cl))
 |[]=>some []
 |y::l=>match y with
  |.one c=>match(Sl.one c).cells,cellsOf l with
   |some m,some n=>some ((false,m)::n)
   |_,_=>none
  |.agg c=>match(Sl.agg c).cells,cellsOf l with
   |some m,some n=>some ((true,m)::n)
   |_,_=>none
  |_=>none
def PZ(t:Ty)(d:Nat)(l:List Cl):Option t.T:=IC t d (l.map (fit d))
theorem J5{t:Ty}{d:Nat}{x:t.T}(h:PZ t d l=some x)(r:List Ab):CK (l.map (Cl.v r)) (tyV t d x)/\l.map (Cl.v r)=l.map Cl.v0:=by
 have:=Db h r
 have A:(l.map (fit d)).map (Cl.v r)=l.map (Cl.v r):=by
  rw[List.map_map];exact List.map_congr_left λc _=>(Ac8 d r c).1
 have e:(l.map (fit d)).map Cl.v0=l.map Cl.v0:=by
  rw[List.map_map];exact List.map_congr_left λc _=>(Ac8 d r c).2
 grind
def LC(b:Bool)(p:Bool×Nat×Ty)(l:List Cl):Option p.2.2.T:=bif b|| !isP p then PZ p.2.2 p.2.1 l else match l with
 |[.nilp]=>some p.2.2.dflt
 |_=>none
def Ug(b:Bool):(rs:List (Bool×Nat×Ty))->List (Bool×List Cl)->List Cl->Option (RT rs).T
 |[],[],[]=>some ()
 |[p],[q],l=>bif p.1==q.1&&(p.1||p.2.2.one)&&Nat.beq l.length q.2.length then LC b p l else none
 |p::A::rs,q::e::qs,l=>bif p.1==q.1&&(p.1||p.2.2.one)&&Nat.ble q.2.length l.length then(match LC b p (l.take q.2.length)with
  |some x=>match Ug b (A::rs) (e::qs) (l.drop q.2.length)with
   |some z=>some (x,z)
   |none=>none
  |none=>none)else none
 |_,_,_=>none
def AaW(b:Bool)(Θ:Tab)(rv:List ResultVar)(rs:List (Bool×Nat×Ty))(s:St):Option (RT rs).T:=match ZK Θ s rv with
 |some ys=>match cellsOf ys with
  |some ls=>match AbT s.r (ls.flatMap (·.2))with
   |some m=>bif O9 (CU (ls.flatMap (·.2)))then Ug b rs ls m else none
   |none=>none
  |none=>none
 |none=>none
def retK(Θ:Tab)(rv:List ResultVar)(rs:List (Bool×Nat×Ty)):Exit->St->Option (RT rs).T
 |.normal,s=>AaW true Θ rv rs s
 |.ret,s=>AaW true Θ rv rs s
 |_,_=>none
def retN(Θ:Tab)(rv:List ResultVar)(rs:List (Bool×Nat×Ty))(s:St):Option (Bool×(RT rs).T):=match AaW true Θ rv rs s with
 |some z=>some (true,z)
 |none=>match AaW false Θ rv rs s with
  |some z=>some (false,z)
  |none=>none
def retKN(Θ:Tab)(rv:List ResultVar)(rs:List (Bool×Nat×Ty)):Exit->St->Option (Bool×(RT rs).T)
 |.normal,s=>retN Θ rv rs s
 |.ret,s=>retN Θ rv rs s
 |_,_=>none
def pS(b:Bool)(t:Ty)(x:t.T):Sl:=bif b then .agg (As t 0 x)else .one (.c t 0 x)
def YO:(l:List (Bool×Ty))->(PT l).T->List Sl
 |[],_=>[]
 |[p],x=>[pS p.1 p.2 x]
 |p::q::l,x=>pS p.1 p.2 x.1::YO (q::l) x.2
def Iq(l:List (Bool×Ty))(x:(PT l).T):St:=⟨λi=>(YO l x).getD i (.one .dead),[]⟩
noncomputable def tfun(E:A8)(body:Code)(rv:List ResultVar)(S:Sig)(x:(PT S.ps).T):Option (RT S.rs).T:=WL E body (Iq S.ps x) (retK E.Θ rv S.rs)
theorem Pc{s:St}:∀(ys:List Sl) (ls:List (Bool×List Cl)),cellsOf ys=some ls->(ys.map (Sl.v s.r)).all Bu=true/\(ys.map (Sl.v s.r)).flatMap Go.Ve.cellsV=(ls.flatMap (·.2)).map (Cl.v s.r)/\(ls.flatMap (·.2)).all Cl.plain=true/\ls.length=ys.length
 |[],ls,h=>by cases h;exact⟨rfl,rfl,rfl,rfl⟩
 |y::ys,ls,h=>by
  have go:∀(b:Bool) (m:List Cl) (n:List (Bool×List Cl)),y.cells=some m->cellsOf ys=some n->ls=(b,m)::n->((y::ys).map (Sl.v s.r)).all Bu=true/\((y::ys).map (Sl.v s.r)).flatMap Go.Ve.cellsV=(ls.flatMap (·.2)).map (Cl.v s.r)/\(ls.flatMap (·.2)).all Cl.plain=true/\ls.length=(y::ys).length:=by
   intro b m n B A e;subst e;obtain⟨J,W,F⟩:=CJ (r:=s.r) B;obtain⟨g1,g2,U,O⟩:=Pc ys n A;refine⟨by rw[List.map_cons,List.all_cons,J,g1];rfl,?_,?_,by simp[O]⟩
   .grind
   .rw[List.flatMap_cons,List.all_append,F,U];rfl
  unfold cellsOf at h;split at h
  .split at h
   .rename_i m n B A
    cases h;exact go _ _ _ B A rfl
   .cases h
  .split at h
   .rename_i m n B A
    cases h;exact go _ _ _ B A rfl
   .cases h
  .cases h
theorem DZ{s:St}:∀(ys:List Sl) (ls:List (Bool×List Cl)),cellsOf ys=some ls->∀k,k<ls.length->((ls.getD k (false,[])).1=true/\(∃l,(ys.getD k (.one .dead)).v s.r=Ai l/\l.length=(ls.getD k (false,[])).2.length))\/((ls.getD k (false,[])).1=false/\(∀t n f,(ys.getD k (.one .dead)).v s.r≠.many t n f)/\(ls.getD k (false,[])).2.length=1)
 |[],ls,h,k,hk=>by cases h;simp at hk
 |y::ys,ls,h,k,hk=>by
  unfold cellsOf at h;split at h
  .rename_i c
   split at h
   .rename_i m n e B
    cases h;cases k with
    |zero=>
     right;refine⟨rfl,?_,?_⟩
     .have e:(bif c.plain then some [c]else none)=some m:=e
      cases A:c.plain with
      |false=>rw[A]at e;cases e
      |true=>
       show ∀t n f,c.v s.r≠.many t n f;cases c with
       |c t d x=>cases t<;>first|(cases A;done)|(intro _ _ _ h;cases h)
       |_=>intro _ _ _ h;cases h
     .have e:(bif c.plain then some [c]else none)=some m:=e
      cases A:c.plain with
      |false=>rw[A]at e;cases e
      |true=>rw[A]at e;cases e;rfl
    |succ k=>exact DZ ys n B k (by simpa using hk)
   .cases h
  .rename_i c
   split at h
   .rename_i m n e B
    cases h;cases k with
    |zero=>
     left;refine⟨rfl,c.map (Cl.v s.r),rfl,?_⟩;have e:(bif c.all Cl.plain then some c else none)=some m:=e;cases A:c.all Cl.plain with
     |false=>rw[A]at e;cases e
     |true=>rw[A]at e;cases e;simp
    |succ k=>exact DZ ys n B k (by simpa using hk)
   .cases h
  .cases h
def ZV(b:Bool):∀(rs:List (Bool×Nat×Ty)) (ls:List (Bool×List Cl)) (l:List Cl) (z:(RT rs).T) (F:List V),Ug b rs ls l=some z->F.length=ls.length->
  (∀k,k<ls.length->((ls.getD k (false,[])).1=true/\(∃m,F.getD k .dead=Ai m/\m.length=(ls.getD k (false,[])).2.length))\/((ls.getD k (false,[])).1=false/\(∀t n f,F.getD k .dead≠.many t n f)/\(ls.getD k (false,[])).2.length=1))->
  CK (Bh F (l.map Cl.v0)) (Vu b rs z):=by
 -- one result
 have one:∀(p:Bool×Nat×Ty) (q:Bool×List Cl) (l:List Cl) (x:p.2.2.T) (v:V) (Y:List V) (A:List V),p.1=q.1->(p.1=true\/p.2.2.one=true)->l.length=q.2.length->LC b p l=some x->
   ((q.1=true/\(∃m,v=Ai m/\m.length=q.2.length))\/(q.1=false/\(∀t n f,v≠.many t n f)/\q.2.length=1))->∃v',Bh (v::Y) (l.map Cl.v0++A)=v'::Bh Y A/\Sub v' (Y6 b p x):=by
  intro p q l x v Y A h1 h2 B O W;unfold LC at O;unfold Y6;cases U:b|| !isP p with
  |false=>
   rw[U]at O;simp only[cond_false]at O;split at O
   case h_2=>cases O
   have hp1:p.1=false:=by
    rw[Bool.or_eq_false_iff,Bool.not_eq_false']at U;have:=U.2;unfold isP at this;rw[bAE,Bool.not_eq_true']at this;exact this.1
   rcases W with⟨Z,_⟩|⟨_,hv,_⟩
   .rw[<-h1,hp1]at Z;cases Z
   .refine⟨.c (.pointer none),?_,Sub.refl _⟩
    show Bh (v::Y) (.c (.pointer none)::A)=_;cases v with
    |many t n f=>exact absurd rfl (hv _ _ _)
    |_=>rfl
  |true=>
  rw[U]at O;simp only[cond_true]at O⊢;obtain⟨g1,g2⟩:=J5 O [];rw[g2]at g1;rcases W with⟨Z,m,rfl,hm⟩|⟨Z,hv,hq1⟩
  .refine⟨Ai (l.map Cl.v0),?_,?_⟩
   .show Ai ((l.map Cl.v0++A).take m.length)::Bh Y ((l.map Cl.v0++A).drop m.length)=_
    have e:(l.map Cl.v0).length=m.length:=by rw[List.length_map,B,hm]
    rw[<-e,List.take_left,List.drop_left]
   .rw[h1,Z];exact g1.mk
  .have hp:p.1=false:=by rw[h1,Z]
   have ho:p.2.2.one=true:=by rcases h2 with h|h;rw[hp]at h;cases h;exact h
   rw[BL ho]at g1
   match l,B with
   |[y],_=>
    refine⟨y.v0,?_,?_⟩
    .show Bh (v::Y) (y.v0::A)=_
     cases v with
     |many t n f=>exact absurd rfl (hv _ _ _)
     |_=>rfl
    .rw[hp];exact g1.1
   |[],B=>rw[hq1]at B;cases B
   |_::_::_,B=>rw[hq1]at B;simp at B
 intro rs
 induction rs with
 |nil=>
  intro ls l z F h B W;cases ls with
  |nil=>cases l with
   |nil=>cases F with
    |nil=>trivial
    |cons=>simp at B
   |cons=>cases h
  |cons=>cases h
 |cons p rs ih=>
  intro ls l z F h B W;cases rs with
  |nil=>
   cases ls with
   |nil=>cases h
   |cons q ls=>cases ls with
    |cons=>cases h
    |nil=>
     have h:(bif p.1==q.1&&(p.1||p.2.2.one)&&Nat.beq l.length q.2.length then LC b p l else none)=some z:=h;obtain⟨J,h⟩:=A9 h;simp only[bAE,beq_iff_eq,Bool.or_eq_true]at J;cases F with
     |nil=>simp at B
     |cons v F=>cases F with
      |cons=>simp at B
      |nil=>
       obtain⟨v',e,hs⟩:=one p q l z v [] [] J.1.1 J.1.2 (bqE J.2) h (W 0 (by simp))
       rw[List.append_nil]at e;rw[e];exact⟨hs,trivial⟩
  |cons p' rs=>
   cases ls with
   |nil=>cases h
   |cons q ls=>cases ls with
    |nil=>cases h
    |cons q' ls=>
     have h:(bif p.1==q.1&&(p.1||p.2.2.one)&&Nat.ble q.2.length l.length then(match LC b p (l.take q.2.length)with
      |some x=>match Ug b (p'::rs) (q'::ls) (l.drop q.2.length)with
       |some z=>some (x,z)
       |none=>none
      |none=>none)else none:Option (RT (p::p'::rs)).T)=some z:=h
     cases J:(p.1==q.1&&(p.1||p.2.2.one)&&Nat.ble q.2.length l.length)with
     |false=>rw[J]at h;cases h
     |true=>
      rw[J]at h;simp only[bAE,beq_iff_eq,Bool.or_eq_true]at J;simp only[cond_true]at h;split at h
      case h_2=>cases h
      rename_i x O;split at h
      case h_2=>cases h
      rename_i z2 hz2;cases h;cases F with
      |nil=>simp at B
      |cons v F=>
       have hlen:(l.take q.2.length).length=q.2.length:=by
        have:=blE J.2;rw[List.length_take];omega
       obtain⟨v',e,hs⟩:=one p q (l.take q.2.length) x v F ((l.drop q.2.length).map Cl.v0) J.1.1 J.1.2 hlen O (W 0 (by simp))
       rw[<-List.map_append,List.take_append_drop]at e;rw[e];refine⟨hs,ih (q'::ls) (l.drop q.2.length) z2 F hz2 (by simpa using B) λk hk'=>?_⟩
       have:=W (k+1) (by simpa using hk')
       simpa using this
theorem Xl{P:Program}{Θ:Tab}(B:Θ.OK P){s:St}{K:List V->Prop}:∀(rv:List ResultVar) (ys:List Sl) (e:List V),ZK Θ s rv=some ys->K (e++ys.map (Sl.v s.r))->Vv P s.den rv e K
 |[],ys,e,h,hK=>by cases h;show K e;grind
 |v::rv,ys,e,h,hK=>by
  unfold ZK at h;split at h
  case h_2=>cases h
  rename_i y F;split at h
  case h_2=>cases h
  rename_i m O;cases h;have A:Vv P s.den rv (e++[y.v s.r]) K:=Xl B rv m _ O (by grind)
  cases v with
  |tmp t=>
   cases F;exact A
  |cell a t=>
   unfold retV1 at F;simp at F;split at F
   .rename_i W U
    cases F;exact Lu (QP B U trivial) λY J=>by rw[J];exact A
   grind
theorem Ln(F:Θ.OK P){z:(RT rs).T}(h:AaW b Θ rv rs s=some z):Vv P s.den rv [] (Wj s.den.σ (Jb b rs z)):=by
 unfold AaW at h;split at h
 case h_2=>cases h
 rename_i ys J;split at h
 case h_2=>cases h
 rename_i ls B;split at h
 case h_2=>cases h
 rename_i m W;obtain⟨hd,h⟩:=A9 h;refine Xl F rv ys [] J ?_;rw[List.nil_append];obtain⟨h1,h2,h3,Z⟩:=Pc (s:=s) ys ls B;refine⟨h1,?_⟩;rw[h2];have O:=AbS W h3 hd
 .rw[O]
  have A:=ZV b rs ls m z (ys.map (Sl.v s.r)) h (by rw[List.length_map,Z]) λk Y=>?_
  .-- LA
   have U:∀{a b:List V},CK a b->Sub (OA a) (OA b):=by
    intro a b e
    match a,b,e with
    |[],[],_=>exact Sub.refl _
    |[x],[y],e=>exact e.1
    |x::x'::a,y::y'::b,e=>
     show Sub (Dw _) (Dw _);unfold Dw;rw[e.len];exact⟨_,rfl,λk _=>e.getD k⟩
    |[],_::_,e=>exact e.elim
    |_::_,[],e=>exact e.elim
    |[_],_::_::_,e=>exact e.2.elim
    |_::_::_,[_],e=>exact e.2.elim
   exact U A
  .have:=DZ (s:=s) ys ls B k Y
   simp_all
def pS_v(b:Bool)(t:Ty)(x:t.T):(pS b t x).v []=vOf b t 0 x:=by
 cases b with
 |true=>show Ai ((As t 0 x).map (Cl.v []))=_;rw[Cl.v_c];rfl
 |false=>rfl
def US:∀(l:List (Bool×Ty)) (x:(PT l).T),(YO l x).map (Sl.v [])=Cf l x
 |[],x=>rfl
 |[p],x=>congrArg (λv=>[v]) (pS_v p.1 p.2 x)
 |p::q::l,x=>by
  show(pS p.1 p.2 x.1).v []::(YO (q::l) x.2).map (Sl.v [])=vOf p.1 p.2 0 x.1::Cf (q::l) x.2;rw[US (q::l) x.2,pS_v]
def Dj:∀(l:List (Bool×Ty)) (x:(PT l).T),(Cf l x).length=l.length
 |[],_=>rfl
 |[_],_=>rfl
 |_::q::l,x=>by show(Cf (q::l) x.2).length+1=_;rw[Dj];rfl
theorem AaI(J:EOK P E.toEnv)(Y:P.follows .mixedOrders=true)(Z:P.funcs[f]? =some fn)(hb:fn.body=some body)(hn:max S.ps.length fn.ntmps=E.h.n):
  FT P f S (tfun E body fn.results.toList S):=by
 intro x y B;refine FC_of Z hb (by rw[Dj];omega) λ_ C a w Q hCm U F=>?_
 have e:(Iq S.ps x).den=⟨λi=>(Cf S.ps x).getD i .dead,[]⟩:=by
  show Ms.mk (λi=>((YO S.ps x).getD i (.one .dead)).v []) []=_
  congr 1
  funext i
  rw[<-US S.ps x,AE (a:=.one .dead) rfl]
 rw[<-e]at U;rw[<-Hn]at F;refine Jg J Y (by omega) body (Iq S.ps x) _ y Q a w U B λe s' W w' _ A O=>?_
 cases e with
 |normal=>exact F .normal s'.den W w' (Ln J.Θ O) A
 |ret=>exact F .ret s'.den W w' (Ln J.Θ O) A
 |exit id=>trivial
 |goto l=>trivial
 |panic ch=>trivial
 |outgrown=>trivial
noncomputable def tfunN(E:A8)(body:Code)(rv:List ResultVar)(S:Sig)(x:(PT S.ps).T):Option (Bool×(RT S.rs).T):=WL E body (Iq S.ps x) (retKN E.Θ rv S.rs)
theorem AaX(e:Θ.OK P){z:(RT rs).T}(h:retN Θ rv rs s=some (b,z)):Vv P s.den rv [] (Wj s.den.σ (Jb b rs z)):=by
 unfold retN at h;split at h
 .rename_i u A;cases h;exact Ln e A
 .split at h
  .rename_i u A;cases h;exact Ln e A
  grind
theorem Y2(F:EOK P E.toEnv)(Y:P.follows .mixedOrders=true)(Z:P.funcs[f]? =some fn)(hb:fn.body=some body)(hn:max S.ps.length fn.ntmps=E.h.n):
  FTN P f S (tfunN E body fn.results.toList S):=by
 intro x b y B;refine FC_of Z hb (by rw[Dj];omega) λ_ C a w Q hCm O U=>?_
 have e:(Iq S.ps x).den=⟨λi=>(Cf S.ps x).getD i .dead,[]⟩:=by
  show Ms.mk (λi=>((YO S.ps x).getD i (.one .dead)).v []) []=_
  congr 1
  funext i
  rw[<-US S.ps x,AE (a:=.one .dead) rfl]
 rw[<-e]at O;refine Jg F Y (by omega) body (Iq S.ps x) _ (b,y) Q a w O B λe s' W w' _ A J=>?_
 cases e with
 |normal=>exact U .normal s'.den W w' (AaX F.Θ J) A
 |ret=>exact U .ret s'.den W w' (AaX F.Θ J) A
 |exit id=>trivial
 |goto l=>trivial
 |panic ch=>trivial
 |outgrown=>trivial
end Go.Ve


namespace Go.Ve
variable{E:A8}{fn:Func}{f:FuncId}{P:Program}{S:Sig}
noncomputable def tfn(E:A8)(fn:Func)(S:Sig)(x:(PT S.ps).T):Option (RT S.rs).T:=match fn.body with
 |some b=>tfun E b fn.results.toList S x
 |none=>none
theorem AU(B:Tab.OK P E.Θ)(F:KU P E.Γ)(hW:∀e∈E.W,e.OK P)(hN:∀e∈E.N,e.OK P)(Y:P.follows .mixedOrders=true)(hf:P.funcs[f]? =some fn)(O:max S.ps.length fn.ntmps=E.h.n){g:(PT S.ps).T->Option (RT S.rs).T}(Z:tfn E fn S=g)(hU:∀e∈E.U,e.OK P:=by exact Du):FT P f S g:=by
 subst Z;intro x y A;unfold tfn at A;cases J:fn.body with
 |none=>grind
 |some b=>
  rw[J]at A;exact AaI ⟨B,F,hW,hN,hU⟩ Y hf J O x y A
noncomputable def tfnN(E:A8)(fn:Func)(S:Sig)(x:(PT S.ps).T):Option (Bool×(RT S.rs).T):=match fn.body with
 |some b=>tfunN E b fn.results.toList S x
 |none=>none
theorem AbJ(B:Tab.OK P E.Θ)(F:KU P E.Γ)(hW:∀e∈E.W,e.OK P)(hN:∀e∈E.N,e.OK P)(Y:P.follows .mixedOrders=true)(hf:P.funcs[f]? =some fn)(O:max S.ps.length fn.ntmps=E.h.n){g:(PT S.ps).T->Option (Bool×(RT S.rs).T)}(Z:tfnN E fn S=g)(hU:∀e∈E.U,e.OK P:=by exact Du):FTN P f S g:=by
 subst Z;intro x b y A;unfold tfnN at A;cases J:fn.body with
 |none=>grind
 |some c=>
  rw[J]at A;exact Y2 ⟨B,F,hW,hN,hU⟩ Y hf J O x b y A
def Ao:∀e∈([]:List EnN),e.OK P:=by simp
theorem UE{e:EnN}{l:List EnN}(J:Ae P e.f=true)(F:FTN P e.f e.S e.g)(B:∀e∈l,e.OK P):∀x∈e::l,x.OK P:=by
 intro x A;rcases List.mem_cons.1 A with rfl|A
 .trivial
 grind
theorem An:KU P []:=λ_ h=>by grind
def Ac{e:En}{l:List En}(J:Ae P e.f=true)(F:FT P e.f e.S e.g)(B:KU P l):KU P (e::l):=by
 intro x A;rcases List.mem_cons.1 A with rfl|A
 .trivial
 .exact B x A
end Go.Ve

