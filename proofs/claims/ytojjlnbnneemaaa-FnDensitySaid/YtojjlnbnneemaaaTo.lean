/- The typed machine over code: what a body computes, as a function; that it does. -/
import Derived.Test.YtojjlnbnneemaaaTl
open Nat(beq ble beq_refl)
open List(mem_singleton length_map mem_cons all_cons map_cons map_map map_congr_left)
set_option linter.all false
namespace Go.Ve
variable{C:Ctx}{cs:List Dy}{L Rh:List Nat}{b:List Oper}{d:Nat}{P:Program}{s:St}{u:Ty}{R X:Type}
inductive LO(X R:Type) where
 |next (x:X)
 |brk (id:Nat) (x:X)
 |ret (r:R)
inductive C5{X R:Type}(f:X->Option (LO X R)):X->LO X R->Nat->Prop where
 |brk {x y:X}{id:Nat}:f x=some (.brk id y)->C5 f x (.brk id y) 0
 |ret {x:X}{r:R}:f x=some (.ret r)->C5 f x (.ret r) 0
 |step {x y:X}{o:LO X R}{n:Nat}:f x=some (.next y)->C5 f y o n->C5 f x o (n+1)
noncomputable def A4{X R:Type}(f:X->Option (LO X R))(x:X):Option (LO X R):=@dite _ (∃o n,C5 f x o n) (Classical.propDecidable _) (λh=>some (Classical.choose h)) λ_=>none
theorem C5.det{f:X->Option (LO X R)}:∀{x:X}{o B:LO X R}{n J:Nat},C5 f x o n->C5 f x B J->o=B/\n=J:=by
 intro x o B n J h
 induction h generalizing B J with
 |brk h=>intro A;cases A with
  |brk A=>grind
  |ret A=>grind
  |step A _=>grind
 |ret h=>intro A;cases A with
  |brk A=>grind
  |ret A=>grind
  |step A _=>grind
 |step h _ O=>intro A;cases A with
  |brk A=>grind
  |ret A=>grind
  |step A U=>grind
theorem CY{f:X->Option (LO X R)}{x:X}{o:LO X R}:A4 f x=some o↔ ∃n,C5 f x o n:=by
 unfold A4;split
 .rename_i h
  obtain⟨n,A⟩:=Classical.choose_spec h;constructor
  .grind
  .rintro ⟨J,B⟩;rw[(A.det B).1]
 grind
def Bi(f:X->Option (LO X R))(x:X):A4 f x=(f x).bind λo=>match o with
  |.next y=>A4 f y
  |.brk id y=>some (.brk id y)
  |.ret r=>some (.ret r):=by
 cases B:f x with
 |none=>
  show A4 f x=none;cases h:A4 f x with
  |none=>rfl
  |some o=>
   obtain⟨n,J⟩:=CY.1 h;cases J with
   |brk A=>rw[B]at A;cases A
   |ret A=>rw[B]at A;cases A
   |step A _=>rw[B]at A;cases A
 |some o=>
  cases o with
  |brk id y=>exact CY.2 ⟨0,.brk B⟩
  |ret r=>exact CY.2 ⟨0,.ret B⟩
  |next y=>
   show A4 f x=A4 f y;cases h:A4 f y with
   |some o=>obtain⟨n,J⟩:=CY.1 h;exact CY.2 ⟨n+1,.step B J⟩
   |none=>
    cases U:A4 f x with
    |none=>rfl
    |some o=>
     obtain⟨n,J⟩:=CY.1 U;cases J with
     |brk A=>rw[B]at A;cases A
     |ret A=>rw[B]at A;cases A
     |step A O=>rw[B]at A;cases A;rw[CY.2 ⟨_,O⟩]at h;cases h
def BT:List Ty->Ty
 |[]=>.unit
 |[t]=>t
 |t::u::l=>.pair t (BT (u::l))
def toX:(A:List Ty)->List Dy->Option (BT A).T
 |[],[]=>some ()
 |[t],[y]=>Is t y
 |t::u::l,y::ys=>match Is t y with
  |some x=>match toX (u::l) ys with
   |some z=>some (x,z)
   |none=>none
  |none=>none
 |_,_=>none
def ofX:(A:List Ty)->(BT A).T->List Dy
 |[],_=>[]
 |[t],x=>[⟨t,x⟩]
 |t::u::l,x=>⟨t,x.1⟩::ofX (u::l) x.2
theorem Yi:∀(A:List Ty) (cs:List Dy) (x:(BT A).T),toX A cs=some x->ofX A x=cs
 |[],[],x,h=>rfl
 |[t],[y],x,h=>by show [⟨t,x⟩]=[y];rw[Hg h]
 |t::u::l,y::ys,x,h=>by
  have h:(match Is t y with
   |some x=>match toX (u::l) ys with
    |some z=>some (x,z)
    |none=>none
   |none=>none:Option (BT (t::u::l)).T)=some x:=h
  split at h
  case h_2=>grind
  rename_i B O;split at h
  case h_2=>grind
  rename_i z J;cases h;show⟨t,B⟩::ofX (u::l) z=_;rw[Hg O,Yi (u::l) ys z J]
 |[],_::_,_,h=>by cases h
 |[_],[],_,h=>by cases h
 |[_],_::_::_,_,h=>by cases h
 |_::_::_,[],_,h=>by cases h
structure QV extends Env where
 lp:List (Nat×List Nat×List Nat)
 dn:List (Nat×Nat)
variable{E:QV}
def BY:Code->Nat
 |.region id _ _=>id
 |.seq a b=>match a with
  |.skip=>BY b
  |.label _=>BY b
  |a=>BY a
 |.block _ b=>BY b
 |.loop b=>BY b
 |.scope b=>BY b
 |_=>0
def Bm:Code->List Oper
 |.region _ ops _=>ops.toList
 |.seq a b=>Bm a++Bm b
 |.cond _ a b=>Bm a++Bm b
 |.block _ b=>Bm b
 |.loop b=>Bm b
 |.scope b=>Bm b
 |_=>[]
def N8:Code->List Nat
 |.exit id=>[id]
 |.seq a b=>N8 a++N8 b
 |.cond _ a b=>N8 a++N8 b
 |.block id b=>(N8 b).filter λi=>!beq i id
 |.loop b=>N8 b
 |_=>[]
def lookN{α:Type}(d:α):List (Nat×α)->Nat->α
 |[],_=>d
 |(i,x)::l,k=>bif beq i k then x else lookN d l k
def clId:Cl->List Nat
 |.rf id _=>[id]
 |.rp id _ _ _=>[id]
 |.rs id _ _ _=>[id]
 |.rm id _=>[id]
 |_=>[]
def slId:Sl->List Nat
 |.one c=>clId c
 |_=>[]
def condN(s:St)(c:Nat):Bool:=bif ble 2000000 c then(match slId (s.t (c-2000000))with
 |[]=>true
 |_=>false)else bif ble 1000000 c then(slId (s.t ((c-1000000)/1000))).any λi=>beq i ((c-1000000) % 1000)else true
def YJ(s:St):List (Nat×List Nat×List Nat)->Nat->List Nat×List Nat
 |[],_=>([],[])
 |(i,L,R)::l,k=>bif beq i k then(bif R.all (condN s)then(L,R.filter λc=>!ble 1000000 c)else YJ s l k)else YJ s l k
def W7(o:Oper):Bool:=match o.op with
 |.store _ _ _=>true
 |_=>false
def AbG(o:Oper):Bool:=match o.op with
 |.build _ _=>true
 |.buildSlice _ _ _=>true
 |_=>W7 o
def W9(E:Env)(o:Oper):Bool:=W7 o||match WT E o with
 |some (.app _ _ _ _)=>true
 |some (.cw _ _ _)=>true
 |_=>false
def Vu:List Oper->Nat
 |[]=>0
 |o::l=>match o.op with
  |.assign _=>Vu l+1
  |_=>0
def isNew(ops:Array Oper)(y:Nat):Bool:=ops.toList.any λo=>match o.op,o.dst with
 |.alloc _,some d=>beq d y
 |_,_=>false
def isMade(ops:Array Oper)(y:Nat):Bool:=ops.toList.any λo=>match o.dst with
 |some d=>beq d y&&(match o.op with
  |.buildSlice _ _ _=>true
  |.makeSlice _ _ _=>true
  |op=>(XI op).isSome)
 |none=>false
def isLate(E:Env)(ops:Array Oper)(o:Oper):Bool:=match o.op with
 |.mapUpdate _ _ _ _=>true
 |.store _ (.tmp y) _=>!isNew ops y
 |.store _ _ _=>true
 |_=>match XI o.op with
  |some (_,.tmp y,_)=>!isMade ops y
  |some _=>true
  |none=>W9 E o
def headD(E:Env)(ops:Array Oper):Nat:=bif ops.toList.any (W9 E)then ops.toList.findIdx (λo=>AbG o||W9 E o)else
 bif Ia ops (ops.size-Vu ops.toList.reverse)then ops.size-Vu ops.toList.reverse else ops.size
def headN(E:QV)(id:Nat)(ops:Array Oper):Nat:=lookN (bif Ia ops (headD E.toEnv ops)then headD E.toEnv ops else ops.toList.findIdx (isLate E.toEnv ops)) E.dn id
def brkK{R:Type}(K:Exit->St->Option R):List Nat->Nat->St->Option R
 |[],_,_=>none
 |i::l,id,s=>nif id i (K (.exit i) s) (brkK K l id s)
@[reducible] def Ck {X R:Type} (o:Option R):Option (LO X R):=o.map .ret
@[reducible] def LO.fin {X R:Type} (f:Nat->X->Option R):LO X R->Option R
 |.brk id x=>f id x
 |.ret r=>some r
 |.next _=>none
def UF{R:Type}(L Rh:List Nat)(s:St)(keep:Nat)(A:List Ty)(K:Exit->St->Option R)(e:Exit)(s':St):Option (LO (BT A).T R):=match e with
 |.normal=>match AbT L Rh s s' keep with
  |some cs=>match toX A cs with
   |some x=>some (.next x)
   |none=>none
  |none=>none
 |.exit id=>match AbT L Rh s s' keep with
  |some cs=>match toX A cs with
   |some x=>some (.brk id x)
   |none=>none
  |none=>none
 |.ret=>Ck (K .ret s')
 |_=>none
def Ze{R:Type}(b:Code)(L Rh:List Nat)(s:St)(A:List Ty)(K:Exit->St->Option R):LO (BT A).T R->Option R:=
 LO.fin λid x=>brkK K (N8 b).eraseDups id (BD false (Bm b) L Rh s (ofX A x))
def NR(b:List Oper)(L Rh:List Nat)(s:St):Bool:=L.all (λd=>!(As b d&&(s.t d).stay))&&Rh.all λi=>!(s.r.getD i .dead).isRo
def L6:List Nat->St->St
 |[],s=>s
 |id::l,s=>match s.r.getD id .dead with
  |.arr false (.sl u) d xs=>bif beq u.dep 0 then L6 l ⟨s.t,s.r.set id (.arr false (.osl u) d (NP xs))⟩else L6 l s
  |_=>L6 l s
def ozOf:List (Nat×Nat)->Nat->List Nat
 |[],_=>[]
 |(a,b)::l,k=>bif beq a (k+1000000)then b::ozOf l k else ozOf l k
def Jz:∀(u:Ty) (d:Nat) (x:u.T),u.dep=0->∀c∈AA u d x,∀ro,c.node ro=.dead
 |.int _,_,_,_,c,h,_=>by rw[mem_singleton.1 h];rfl
 |.bool,_,_,_,c,h,_=>by rw[mem_singleton.1 h];rfl
 |.str,_,_,_,c,h,_=>by rw[mem_singleton.1 h];rfl
 |.unit,_,_,_,c,h,_=>by cases h
 |.pair a b,d,x,hd,c,h,ro=>by
  simp[Ty.dep]at hd;rcases List.mem_append.1 h with h|h
  .exact Jz a d x.1 (by omega) c h ro
  .exact Jz b d x.2 (by omega) c h ro
 |.sl _,_,_,h,_,_,_=>by trivial
 |.ptr _,_,_,h,_,_,_=>by trivial
 |.clo _ _,_,_,h,_,_,_=>by trivial
 |.osl _,_,_,h,_,_,_=>by trivial
def Qr{α:Type}(xs:List (List α))(i:Nat):(NP xs).getD i (some [])=some (xs.getD i []):=by
 unfold NP;simp
def Abj{xs:List (List u.T)}:(Ae.arr false (.osl u) d (NP xs)).v=(Ae.arr false (.sl u) d xs).v:=by
 show arr true 1 (tyV (.osl u) d) (some []) (NP xs)=arr true 1 (tyV (.sl u) d) [] xs;unfold arr;have A:(NP xs).length=xs.length:=by simp[NP]
 congr 1
 funext i k
 rw[Qr];rfl
def WD{xs:List (List u.T)}(J:u.dep=0):∀q:AX,((Ae.arr false (.osl u) d (NP xs)).at' q).len=((Ae.arr false (.sl u) d xs).at' q).len
 |[]=>by show(NP xs).length=xs.length;simp[NP]
 |(i,0)::q=>by
  show(((Cl.c (.osl u) d ((NP xs).getD i (some []))).node false).at' q).len=(((Cl.c (.sl u) d (xs.getD i [])).node false).at' q).len;rw[Qr];cases d with
  |zero=>rfl
  |succ d=>
   cases q with
   |nil=>rfl
   |cons a q=>
    obtain⟨A,k2⟩:=a;show(((([]:List Cl).getD k2 .dead).node false).at' q).len=((((AA u d ((xs.getD i []).getD A u.dflt)).getD k2 .dead).node false).at' q).len
    have e:((AA u d ((xs.getD i []).getD A u.dflt)).getD k2 .dead).node false=.dead:=by
     by_cases B:k2<(AA u d ((xs.getD i []).getD A u.dflt)).length
     .rw[gDE,gEE B]
      exact Jz u d _ J _ (List.getElem_mem B) _
     .rw[gDE,List.getElem?_eq_none (by omega)];rfl
    rw[e];rfl
 |(i,k+1)::q=>by
  rfl
theorem HE:∀(l:List Nat) (s:St),(L6 l s).den=s.den/\∀g,Kp g s (L6 l s)
 |[],s=>⟨rfl,λg=>Kp.refl _ _⟩
 |id::l,s=>by
  unfold L6;split
  .rename_i u d xs J
   cases hb:beq u.dep 0 with
   |false=>exact HE l s
   |true=>
    have Y:=bqE hb;obtain⟨h1,h2⟩:=HE l ⟨s.t,s.r.set id (.arr false (.osl u) d (NP xs))⟩;have U:id<s.r.length:=by
     grind
    have Z:∀id' q,(Ag (s.r.set id (.arr false (.osl u) d (NP xs))) id' q).len=(Ag s.r id' q).len:=by
     intro id' q;by_cases W:id'=id
     .subst W
      unfold Ag;have e:(s.r.set id' (.arr false (.osl u) d (NP xs))).getD id' .dead=.arr false (.osl u) d (NP xs):=by simp[U]
      rw[e,J];exact WD Y q
     .rw[Bn W]
    have B:(s.r.set id (.arr false (.osl u) d (NP xs))).map Ae.v=s.r.map Ae.v:=by
     rw[List.map_set,Abj,<-J];apply List.ext_getElem?
     grind
    refine⟨?_,λg=>?_⟩
    .show(L6 l _).den=_
     rw[h1];unfold St.den;simp only[B]
     congr 1
     funext i
     exact Sl.v_lens Z _
    .refine Kp.trans (s1:=⟨s.t,s.r.set id (.arr false (.osl u) d (NP xs))⟩) (g1:=g) (g2:=g) ⟨λi _ _=>rfl,λid' _ A=>?_,by simp⟩ (h2 g) (λ_ h=>h) λ_ h=>h
     have O:id≠id':=by
      rintro rfl
      rw[J]at A;cases A
     simp only[gDE,List.getElem?_set_ne O]
  .exact HE l s
noncomputable def CG(H:Code->{R:Type}->St->(Exit->St->Option R)->Option R)(E:QV):Code->{R:Type}->St->(Exit->St->Option R)->Option R
 |.skip,_,s,K=>K .normal s
 |.region _ ops false,_,s,K=>tops E.toEnv ops (X1 ops.size ops.toList) s (K .normal)
 |.region id ops true,_,s,K=>AaK E.toEnv (headN E id ops) ops s (K .normal)
 |.seq a b,_,s,K=>CG H E a s λe s'=>match e with
  |.normal=>CG H E b s' K
  |.exit id=>K (.exit id) s'
  |.ret=>K .ret s'
  |.goto l=>K (.goto l) s'
  |_=>none
 |.cond c x y,_,s,K=>match s.ev c with
  |some (.one (.c .bool _ b))=>Pz b (CG H E x s K) (CG H E y s K)
  |_=>none
 |.block id b,_,s,K=>CG H E b s λe s'=>match e with
  |.exit i=>bif beq i id then K .normal s' else K (.exit i) s'
  |.normal=>K .normal s'
  |.ret=>K .ret s'
  |.goto l=>K (.goto l) s'
  |_=>none
 |.loop b,R,s0,K=>match L6 (ozOf E.dn (BY b)) s0 with
  |s=>match YJ s E.lp (BY b)with
  |(L,Rh)=>bif NR (Bm b) L Rh s then(match AbT L Rh s s E.h.keep with
   |some cs=>match toX (cs.map (·.t)) cs with
    |some x=>IR (A4 (λx=>CG H E b (BD true (Bm b) L Rh s (ofX (cs.map (·.t)) x)) (UF L Rh s E.h.keep (cs.map (·.t)) K)) x) (Ze b L Rh s (cs.map (·.t)) K)
    |none=>none
   |none=>none)else none
 |.exit id,_,s,K=>K (.exit id) s
 |.label _,_,s,K=>K .normal s
 |.goto l,_,s,K=>K (.goto l) s
 |.ret,_,s,K=>K .ret s
 |.scope c,_,s,K=>H c s K
 |_,_,_,_=>none
noncomputable def AaJ(E:QV):Code->{R:Type}->St->(Exit->St->Option R)->Option R:=CG (λ_ _ _ _=>.none) E
theorem JQ{t0:Nat->Sl}:∀(L:List Nat) (cs:List Dy) (t:Nat->Sl) (i:Nat),L.contains i=false->(Ko t0 L cs t).1 i=t i
 |[],cs,t,i,_=>rfl
 |d::L,cs,t,i,h=>by
  rw[List.contains_cons,Bool.or_eq_false_iff]at h;unfold Ko;rw[JQ L _ _ i h.2];have A:i≠d:=by
   grind
  exact A1 A
def HU{r0:List Ae}:∀(Rh:List Nat) (cs:List Dy) (r:List Ae) (i:Nat),Rh.contains i=false->(He r0 Rh cs r).getD i .dead=r.getD i .dead
 |[],cs,r,i,_=>rfl
 |d::L,cs,r,i,h=>by
  rw[List.contains_cons,Bool.or_eq_false_iff]at h;unfold He;rw[HU L _ _ i h.2]
  grind
def HT{r0:List Ae}:∀(Rh:List Nat) (cs:List Dy) (r:List Ae),(He r0 Rh cs r).length=r.length
 |[],cs,r=>rfl
 |d::L,cs,r=>by unfold He;rw[HT L,List.length_set]
theorem Xd{ro:Bool}(h:NR b L Rh s=true):Kp (As b) s (BD ro b L Rh s cs):=by
 unfold NR at h;rw[bAE]at h;refine⟨λi O J=>?_,λid U A=>?_,?_⟩
 .have B:L.contains i=false:=by
   grind
  show(Ko s.t L cs _).1 i=_;rw[JQ L _ _ i B];show(bif As b i&&(s.t i).stay then s.t i else _)=_;rw[O,J];rfl
 .have B:Rh.contains id=false:=by
   grind
  show(He s.r Rh _ (bif ro then s.r.map BI else s.r)).getD id .dead=_;rw[HU Rh _ _ id B];cases ro with
  |false=>rfl
  |true=>
   show(s.r.map BI).getD id .dead=_
   have e:(s.r.map BI).getD id .dead=BI (s.r.getD id .dead):=by
    simp only[gDE,List.getElem?_map];cases s.r[id]? <;>rfl
   rw[e];generalize s.r.getD id .dead=x at A;cases x with
   |dead=>rfl
   |obj ro l=>have A:ro=true:=A;subst A;rfl
   |arr ro t d xs=>have A:ro=true:=A;subst A;rfl
   |opt ro t d xs=>have A:ro=true:=A;subst A;rfl
   |mp ro k v xs=>have A:ro=true:=A;subst A;rfl
 .show s.r.length<=(He s.r Rh _ (bif ro then s.r.map BI else s.r)).length
  rw[HT];cases ro<;>simp
theorem UQ{s':St}(U:Kp (As b) (BD true b L Rh s cs) s'):
  (∀i,L.contains i=false->As b i=true->(s.t i).stay=true->s'.t i=s.t i)/\
  (∀id,id<s.r.length->Rh.contains id=false->(s'.r.getD id .dead).v=(s.r.getD id .dead).v/\(s'.r.getD id .dead).len=(s.r.getD id .dead).len)/\
  (∀id,id<s.r.length->Rh.contains id=false->∀q:AX,((s'.r.getD id .dead).at' q).len=((s.r.getD id .dead).at' q).len):=by
 have Z:∀id,id<s.r.length->Rh.contains id=false->s'.r.getD id .dead=BI (s.r.getD id .dead):=λid O J=>by
  have e:(BD true b L Rh s cs).r.getD id .dead=BI (s.r.getD id .dead):=by
   show(He s.r Rh _ (s.r.map BI)).getD id .dead=_;rw[HU Rh _ _ id J]
   grind
  have B:(BI (s.r.getD id .dead)).isRo=true:=by cases s.r.getD id .dead<;>rfl
  have A:(BD true b L Rh s cs).r.length=s.r.length:=by
   show(He s.r Rh _ (s.r.map BI)).length=_;rw[HT,length_map]
  rw[U.r id (by rw[A];exact O) (by rw[e];exact B),e]
 refine⟨λi J Y W=>?_,λid O J=>?_,λid O J q=>by rw[Z id O J];exact Zm q _ _ (Jl _)⟩
 .have e:(BD true b L Rh s cs).t i=s.t i:=by
   show(Ko s.t L cs _).1 i=_;rw[JQ L _ _ i J]
   grind
  rw[U.t i Y (by rw[e];exact W),e]
 .have e:(BD true b L Rh s cs).r.getD id .dead=BI (s.r.getD id .dead):=by
   show(He s.r Rh _ (s.r.map BI)).getD id .dead=_;rw[HU Rh _ _ id J]
   grind
  have B:(BI (s.r.getD id .dead)).isRo=true:=by cases s.r.getD id .dead<;>rfl
  have A:(BD true b L Rh s cs).r.length=s.r.length:=by
   show(He s.r Rh _ (s.r.map BI)).length=_;rw[HT,length_map]
  rw[U.r id (by rw[A];exact O) (by rw[e];exact B),e]
  exact LN _
theorem Om{R:Type}{K:Exit->St->Option R}{z:R}{s:St}:∀(l:List Nat) (id:Nat),brkK K l id s=some z->K (.exit id) s=some z
 |[],id,h=>by cases h
 |i::l,id,h=>by
  have h:(if id=i then K (.exit i) s else brkK K l id s)=some z:=h
  split at h
  .grind
  .exact Om l id h
theorem Abq{P:Program}{H:Code->{R:Type}->St->(Exit->St->Option R)->Option R}(J:C.m<=E.h.keep){b:Code}
  (ih:∀{R:Type} (s:St) (K:Exit->St->Option R) (z:R) (Q:Exit->Act->World->Prop) (a:Act) (w:World),AQ C E.h.n s.den a w->CG H E b s K=some z->(∀e s' Y w',Kp (As (Bm b)) s s'->AQ C E.h.n s'.den Y w'->K e s'=some z->Q e Y w')->b.wp P Q a w)
  {R:Type}{s:St}{K:Exit->St->Option R}{z:R}{Q:Exit->Act->World->Prop}{a:Act}{w:World} (hs:AQ C E.h.n s.den a w) {L Rh:List Nat} (hok:NR (Bm b) L Rh s=true) {A:List Ty}{cs:List Dy} (hcs:AbT L Rh s s E.h.keep=some cs) {x0:(BT A).T} (hx0':ofX A x0=cs)
  (h:(A4 (λx=>CG H E b (BD true (Bm b) L Rh s (ofX A x)) (UF L Rh s E.h.keep A K)) x0).bind (Ze b L Rh s A K)=some z)
  (hQ:∀e s' Y w',Kp (As (Bm b)) s s'->AQ C E.h.n s'.den Y w'->K e s'=some z->Q e Y w'):(Code.loop b).wp P Q a w:=by
 obtain⟨hd0,hdd0,D0,ρ0,F0,hcr0⟩:=id hs;have hml:C.m<=s.r.length:=by have:=hcr0.ml;simpa [St.den]using this
 let body:(BT A).T->Option (LO (BT A).T R):=λx=>CG H E b (BD true (Bm b) L Rh s (ofX A x)) (UF L Rh s E.h.keep A K)
 have h:(A4 body x0).bind (Ze b L Rh s A K)=some z:=h;cases hl:A4 body x0 with
 |none=>rw[hl]at h;cases h
 |some o0=>
  rw[hl]at h;have h:Ze b L Rh s A K o0=some z:=h;obtain⟨n0,hn0⟩:=CY.1 hl
  have h0:AQ C E.h.n (BD true (Bm b) L Rh s (ofX A x0)).den a w:=by
   rw[hx0'];exact Po hs hcs J hml (λ_ _ _ _=>rfl) (λ_ _ _=>⟨rfl,rfl⟩) λ_ _ _ _=>rfl
  let I':Act->World->Prop:=λa w=>∃x n o,C5 body x o n/\Ze b L Rh s A K o=some z/\AQ C E.h.n (BD true (Bm b) L Rh s (ofX A x)).den a w
  have hmin:∀(a:Act) (w:World),∃k,I' a w->(∃x n o,C5 body x o n/\Ze b L Rh s A K o=some z/\AQ C E.h.n (BD true (Bm b) L Rh s (ofX A x)).den a w/\n=k)/\∀x n o,C5 body x o n->Ze b L Rh s A K o=some z->AQ C E.h.n (BD true (Bm b) L Rh s (ofX A x)).den a w->k<=n:=by
   intro a w;by_cases hI:I' a w
   .obtain⟨x,n,o,g1,g2,g3⟩:=hI
    obtain⟨k,hk,hlt⟩:=UI (p:=λk=>∃x n o,C5 body x o n/\Ze b L Rh s A K o=some z/\AQ C E.h.n (BD true (Bm b) L Rh s (ofX A x)).den a w/\n=k) ⟨n,x,n,o,g1,g2,g3,rfl⟩
    exact⟨k,λ_=>⟨hk,λx n o g1 g2 g3=>Nat.le_of_not_lt λhl=>hlt n hl ⟨x,n,o,g1,g2,g3,rfl⟩⟩⟩
   .exact⟨0,λh=>absurd h hI⟩
  let μ':Act->World->Nat:=λa w=>Classical.choose (hmin a w)
  have hμ':=λa w hI=>Classical.choose_spec (hmin a w) hI
  refine wp_loop I' μ' ⟨x0,n0,o0,hn0,h,h0⟩ λa w hI=>?_
  obtain⟨⟨x,n,o,g1,g2,g3,hn⟩,_⟩:=hμ' a w hI;have hn:n=μ' a w:=hn
  -- the round's own answer
  have hround:∃lo,body x=some lo/\((∃y n',lo=.next y/\C5 body y o n'/\n=n'+1)\/(lo=o)):=by
   cases g1 with
   |brk h'=>exact⟨_,h',.inr rfl⟩
   |ret h'=>exact⟨_,h',.inr rfl⟩
   |step h' h2=>exact⟨_,h',.inl ⟨_,_,rfl,h2,rfl⟩⟩
  obtain⟨lo,hlo,O⟩:=hround;refine ih _ _ lo _ a w g3 hlo λe s' Y w' hk hs' B=>?_
  obtain⟨f1,f2,f3⟩:=UQ hk;have hk0:Kp (As (Bm b)) s s':=Kp.trans (Xd hok) hk (λ_ h=>h) λ_ h=>h
  cases e with
  |normal=>
   unfold UF at B;simp only at B;split at B
   case h_2=>cases B
   rename_i cs2 W;split at B
   case h_2=>cases B
   rename_i x2 hx2;cases B;rcases O with⟨y,n',U,hl2,hnn⟩|U
   .cases U
    have Z:AQ C E.h.n (BD true (Bm b) L Rh s (ofX A x2)).den Y w':=by
     rw[Yi _ _ _ hx2];exact Po hs' W J hml f1 f2 f3
    have hI2:I' Y w':=⟨x2,n',o,hl2,g2,Z⟩;refine⟨hI2,?_⟩;have:=(hμ' Y w' hI2).2 x2 n' o hl2 g2 Z;have:μ' Y w'<=n':=this;omega
   .subst U
    cases g2
  |exit id=>
   unfold UF at B;simp only at B;split at B
   case h_2=>cases B
   rename_i cs2 W;split at B
   case h_2=>cases B
   rename_i x2 hx2;cases B;rcases O with⟨y,n',U,_⟩|U
   .cases U
   .subst U
    have g2:brkK K (N8 b).eraseDups id (BD false (Bm b) L Rh s (ofX A x2))=some z:=g2
    have Z:AQ C E.h.n (BD false (Bm b) L Rh s (ofX A x2)).den Y w':=by
     rw[Yi _ _ _ hx2];exact Po hs' W J hml f1 f2 f3
    exact hQ _ _ _ _ (Xd hok) Z (Om _ _ g2)
  |ret=>
   have B:(K .ret s').map LO.ret=some lo:=B;cases hkr:K .ret s' with
   |none=>rw[hkr]at B;cases B
   |some r=>
    rw[hkr]at B;cases B;rcases O with⟨y,n',U,_⟩|U
    .cases U
    .subst U
     cases g2;exact hQ _ _ _ _ hk0 hs' hkr
  |goto l=>cases B
  |panic ch=>cases B
  |outgrown=>cases B
def MQ(P:Program)(E:QV)(C:Ctx)(H:Code->{R:Type}->St->(Exit->St->Option R)->Option R):Prop:=
 ∀(c:Code) {R:Type} (s:St) (K:Exit->St->Option R) (z:R) (Q:Exit->Act->World->Prop) (a:Act) (w:World),AQ C E.h.n s.den a w->H c s K=some z->
  (∀e s' A w',Kp (As (Bm c)) s s'->AQ C E.h.n s'.den A w'->K e s'=some z->Q e A w')->(Code.scope c).wp P Q a w
theorem VB{H:Code->{R:Type}->St->(Exit->St->Option R)->Option R}(hE:EOK P E.toEnv)(hm:P.follows .mixedOrders=true)(hkeep:C.m<=E.h.keep)(hH:MQ P E C H):∀(c:Code) {R:Type} (s:St) (K:Exit->St->Option R) (z:R) (Q:Exit->Act->World->Prop) (a:Act) (w:World),AQ C E.h.n s.den a w->CG H E c s K=some z->
  (∀e s' Y w',Kp (As (Bm c)) s s'->AQ C E.h.n s'.den Y w'->K e s'=some z->Q e Y w')->c.wp P Q a w:=by
 intro c
 induction c with
 |skip=>intro R s K z Q a w J h A;exact wp_skip (A _ _ _ _ (Kp.refl _ _) J h)
 |region id ops draw=>
  intro R s K z Q a w J h A;cases draw with
  |false=>
   have h:tops E.toEnv ops (X1 ops.size ops.toList) s (K .normal)=some z:=h;refine wp_region_list ?_;have:=Vw hE (ops:=ops) (Q:=Q) _ s a w J h λs' Y w' U B O=>A .normal s' Y w' (by rw[Ct]at U;exact U) B O
   rw[Ct]at this;exact this
  |true=>exact Yk hE hm J h λs' Y w' U B O=>A .normal s' Y w' U B O
 |seq x y ihx ihy=>
  intro R s K z Q a w J h A
  have Z:∀i,As (Bm (.seq x y)) i=true->As (Bm x) i=true/\As (Bm y) i=true:=λi W=>by
   have W:As (Bm x++Bm y) i=true:=W;rw[JA,bAE]at W;exact W
  refine wp_seq (ihx s _ z _ a w J h λe s' Y w' U B O=>?_)
  have hk':Kp (As (Bm (.seq x y))) s s':=U.weak λi W=>(Z i W).1
  cases e with
  |normal=>exact ihy s' K z Q Y w' B O λe2 s2 a2 w2 hk2 hs2 hz2=>A e2 s2 a2 w2 (U.trans hk2 (λi W=>(Z i W).1) λi W=>(Z i W).2) hs2 hz2
  |exit id=>exact A _ _ _ _ hk' B O
  |ret=>exact A _ _ _ _ hk' B O
  |goto l=>exact A _ _ _ _ hk' B O
  |panic ch=>cases O
  |outgrown=>cases O
 |cond c x y ihx ihy=>
  intro R s K z Q a w J h A
  have Z:∀i,As (Bm (.cond c x y)) i=true->As (Bm x) i=true/\As (Bm y) i=true:=λi W=>by
   have W:As (Bm x++Bm y) i=true:=W;rw[JA,bAE]at W;exact W
  have h:(match s.ev c with
   |some (.one (.c .bool _ b))=>bif b then CG H E x s K else CG H E y s K
   |_=>none)=some z:=h
  split at h
  .rename_i d b hb
   obtain⟨hdd,D,ρ,F,hcr⟩:=J.2;have h1:=BE hcr hdd c;rw[Bf hb]at h1;refine wp_cond (t:=b) h1.1 ?_;cases b with
   |true=>exact ihx s K z Q a w J h λe s' Y w' U=>A e s' Y w' (U.weak λi W=>(Z i W).1)
   |false=>exact ihy s K z Q a w J h λe s' Y w' U=>A e s' Y w' (U.weak λi W=>(Z i W).2)
  .cases h
 |block id b ih=>
  intro R s K z Q a w J h A;refine wp_block (ih s _ z _ a w J h λe s' Y w' U B O=>?_)
  cases e with
  |exit id'=>
   simp only[Exit.inBlock];have O:(bif beq id' id then K .normal s' else K (.exit id') s')=some z:=O;by_cases he:id'=id
   .subst he
    rw[beq_refl]at O;rw[if_pos rfl];exact A _ _ _ _ U B O
   .rw[BK he]at O
    rw[if_neg he];exact A _ _ _ _ U B O
  |normal=>exact A _ _ _ _ U B O
  |ret=>exact A _ _ _ _ U B O
  |goto l=>exact A _ _ _ _ U B O
  |panic ch=>cases O
  |outgrown=>cases O
 |loop b ih=>
  intro R s0 K z Q a w J h A;unfold CG at h;obtain⟨s,hso⟩:∃s,s=L6 (ozOf E.dn (BY b)) s0:=⟨_,rfl⟩;rw[<-hso]at h;obtain⟨hden,hkp⟩:=HE (ozOf E.dn (BY b)) s0;rw[<-hso]at hden hkp;rw[<-hden]at J;have A:∀e s' Y w',Kp (As (Bm (.loop b))) s s'->AQ C E.h.n s'.den Y w'->K e s'=some z->Q e Y w':=λe s' Y w' U=>A e s' Y w' ((hkp _).trans U (λ_ h=>h) λ_ h=>h)
  have h:(match YJ s E.lp (BY b)with
   |(L,Rh)=>bif NR (Bm b) L Rh s then(match AbT L Rh s s E.h.keep with
    |some cs=>match toX (cs.map (·.t)) cs with
     |some x=>IR (A4 (λx=>CG H E b (BD true (Bm b) L Rh s (ofX (cs.map (·.t)) x)) (UF L Rh s E.h.keep (cs.map (·.t)) K)) x) (Ze b L Rh s (cs.map (·.t)) K)
     |none=>none
    |none=>none)else none)=some z:=h
  split at h
  rename_i L Rh hlp;obtain⟨hok,h⟩:=Bc h;split at h
  case h_2=>cases h
  rename_i cs hcs;split at h
  case h_2=>cases h
  rename_i x0 hx0;have hx0':=Yi _ _ _ hx0;exact Abq hkeep ih J hok hcs hx0' h A
 |exit id=>intro R s K z Q a w J h A;exact wp_exit (A _ _ _ _ (Kp.refl _ _) J h)
 |label l=>intro R s K z Q a w J h A;exact wp_label (A _ _ _ _ (Kp.refl _ _) J h)
 |ret=>intro R s K z Q a w J h A;exact wp_ret (A _ _ _ _ (Kp.refl _ _) J h)
 |goto l=>intro R s K z Q a w J h A;exact wp_goto (A _ _ _ _ (Kp.refl _ _) J h)
 |rangeFunc f ps x y _ _=>intro R s K z Q a w J h A;cases h
 |scope c _=>intro R s K z Q a w J h A;exact hH c s K z Q a w J h A
 |refuse s=>intro R s K z Q a w J h A;cases h
theorem MQ.none{P:Program}{E:QV}{C:Ctx}:MQ P E C (λ_ _ _ _=>.none):=λ_ _ _ _ _ _ _ _ _ h=>by grind
def PL(W:EOK P E.toEnv)(O:P.follows .mixedOrders=true)(A:C.m<=E.h.keep)(c:Code)(s:St)(K:Exit->St->Option R)(z:R)(Q:Exit->Act->World->Prop)(a:Act)(w:World)(J:AQ C E.h.n s.den a w)(h:AaJ E c s K=some z)
  (U:∀e s' B w',Kp (As (Bm c)) s s'->AQ C E.h.n s'.den B w'->K e s'=some z->Q e B w'):c.wp P Q a w:=
 VB W O A MQ.none c s K z Q a w J h U
end Go.Ve


namespace Go.Ve
variable{l:List Cl}{P:Program}{s:St}
def divP:AX->AX->Bool
 |(_,k)::p,(_,l)::q=>!beq k l||divP p q
 |_,_=>false
theorem QH{x:V}:∀{p q:AX} (_:divP p q=true) (v:V),sub q (upd p v x)=sub q v/\AT p q=false
 |(i,k)::p,(j,l)::q,h0,v=>by
  have h:(!beq k l||divP p q)=true:=h0;by_cases A:k=l
  .subst A
   rw[beq_refl,Bool.not_true,Bool.false_or]at h;refine⟨?_,?_⟩
   .cases v with
    |nd s o sz n f=>
     show sub q (if j=i/\k=k then upd p (f i k) x else f j k)=sub q (f j k)
     by_cases B:j=i
     .subst B
      rw[if_pos ⟨rfl,rfl⟩];exact(QH h (f j k)).1
     grind
    |_=>rfl
   .show(i==j&&k==k&&AT p q)=false
    rw[(QH (x:=x) h v).2,Bool.and_false]
  .refine⟨?_,?_⟩
   .cases v with
    |nd s o sz n f=>
     show sub q (if j=i/\l=k then upd p (f i k) x else f j l)=sub q (f j l)
     grind
    |_=>rfl
   .show(i==j&&k==l&&AT p q)=false
    grind
 |[],_,h,_=>by cases h
 |_::_,[],h,_=>by cases h
def C1:List Cl->List (Nat×AX)
 |[]=>[]
 |.rf id p::l=>(id,p)::C1 l
 |_::l=>C1 l
def QG(a b:Nat×AX):Bool:=!beq a.1 b.1||divP a.2 b.2
def Og:List (Nat×AX)->Bool
 |[]=>true
 |a::l=>l.all (QG a)&&Og l
def AaN(r:List Ae):Cl->Option Cl
 |.c t d x=>some (.c t d x)
 |.nil=>some .nil
 |.nilp=>some .nilp
 |.rf id p=>match Ag r id p with
  |.arr _ t d xs=>some (.c (.sl t) (d+1) xs)
  |_=>none
 |_=>none
def M1(r:List Ae):List Cl->Option (List Cl)
 |[]=>some []
 |y::l=>match AaN r y with
  |some z=>match M1 r l with
   |some m=>some (z::m)
   |none=>none
  |none=>none
def Qp{id:Nat}{q:AX}:∀{l:List Cl},Cl.rf id q∈l->(id,q)∈C1 l
 |[],h=>by grind
 |z::l,h=>by
  rcases mem_cons.1 h with h|h
  .subst h;exact List.mem_cons_self ..
  .have:=Qp h
   cases z<;>first|trivial|exact mCM _ this
def Ho{r:List Ae}{y:Cl}:∀{l l1:List Cl},M1 r l=some l1->y∈l->∃z,AaN r y=some z
 |[],_,_,h=>by grind
 |z::l,l1,hl,h=>by
  unfold M1 at hl;split at hl
  case h_2=>grind
  split at hl
  case h_2=>grind
  rename_i l2 A;rcases mem_cons.1 h with h|h
  .grind
  .exact Ho A h
def AaI{m id:Nat}{p:AX}{n:Nat}{A σ:List V}:tkL (m+1) (V.rs id p 0 n::A) σ=(match sub p (σ.getD id .dead)with
   |.nd true true sz B f=>if 0=0/\n=B then .nd true true sz B f::tkL m (A.map λv=>AJ σ.length [] (rrV id p σ.length v)) (σ.set id (upd p (σ.getD id .dead) .dead)++[.dead])else .dead::tkL m A σ
   |_=>.dead::tkL m A σ):=rfl
theorem tkL_v(r:List Ae):∀(l l':List Cl) (m:Nat) (σ:List V),l.length<=m->l.all Cl.plain=true->M1 r l=some l'->Og (C1 l)=true->
  (∀id p,(id,p)∈C1 l->sub p (σ.getD id .dead)=(Ag r id p).v/\id<σ.length)->tkL m (l.map (Cl.v r)) σ=l'.map Cl.v0:=by
 intro l
 induction l with
 |nil=>intro l' m σ _ _ h _ _;cases h;cases m<;>rfl
 |cons y l ih=>
  intro l' m σ hm hp h hd U;cases m with
  |zero=>simp at hm
  |succ m=>
   simp only[List.length_cons]at hm;rw[all_cons,bAE]at hp;unfold M1 at h;split at h
   case h_2=>cases h
   rename_i z A;split at h
   case h_2=>cases h
   rename_i l1 O;cases h
   have plainly:∀v:V,y.v r=v->v=z.v0->C1 (y::l)=C1 l->(∀vs,tkL (m+1) (v::vs) σ=v::tkL m vs σ)->tkL (m+1) ((y::l).map (Cl.v r)) σ=(z::l1).map Cl.v0:=by
    intro v hv hvz Z htk;rw[map_cons,map_cons,hv,htk,<-hvz]
    congr 1
    exact ih l1 m σ (by omega) hp.2 O (by rw[Z]at hd;exact hd) λid p hm=>U id p (by rw[Z];exact hm)
   cases y with
   |c t d x=>
    cases A;cases t<;>first|exact plainly _ rfl rfl rfl (λ_=>rfl)|cases hp.1
   |nil=>cases A;exact plainly _ rfl rfl rfl λ_=>rfl
   |nilp=>cases A;exact plainly _ rfl rfl rfl λ_=>rfl
   |nilf=>cases A
   |nilm=>cases A
   |rf id p=>
    unfold AaN at A;simp only at A;split at A
    case h_2=>cases A
    rename_i ro t d xs hn;cases A;have W:((C1 l).all (QG (id,p))&&Og (C1 l))=true:=hd;rw[bAE]at W;obtain⟨hs,hid⟩:=U id p (List.mem_cons_self ..);rw[hn]at hs;have hs:sub p (σ.getD id .dead)=.nd true true t.w xs.length λi k=>(tyV t d (xs.getD i t.dflt)).getD k .dead:=hs
    rw[map_cons];show tkL (m+1) (V.rs id p 0 (Ag r id p).len::l.map (Cl.v r)) σ=_;rw[hn];show tkL (m+1) (V.rs id p 0 xs.length::l.map (Cl.v r)) σ=_
    have e:tkL (m+1) (V.rs id p 0 xs.length::l.map (Cl.v r)) σ=(V.nd true true t.w xs.length λi k=>(tyV t d (xs.getD i t.dflt)).getD k .dead)::
      tkL m ((l.map (Cl.v r)).map λv=>AJ σ.length [] (rrV id p σ.length v)) (σ.set id (upd p (σ.getD id .dead) .dead)++[.dead]):=by
     rw[AaI,hs];exact if_pos ⟨rfl,rfl⟩
    rw[e,map_cons]
    congr 1
    -- the rest is as it was
    have Y:(l.map (Cl.v r)).map (λv=>AJ σ.length [] (rrV id p σ.length v))=l.map (Cl.v r):=by
     rw[map_map];refine map_congr_left λy hy=>?_
     show AJ σ.length [] (rrV id p σ.length (y.v r))=y.v r;cases y with
     |c t d x=>cases t<;>first|rfl|exact(congrArg (AJ σ.length []) ((Do id p σ.length).osl (d:=d))).trans ((Ba σ.length []).osl (d:=d))|exact(congrArg (AJ σ.length []) ((Do id p σ.length).clo (d:=d))).trans ((Ba σ.length []).clo (d:=d))
     |dead=>rfl
     |nil=>rfl
     |nilp=>rfl
     |nilf=>rfl
     |nilm=>rfl
     |rf id' q=>
      have B:(id',q)∈C1 l:=Qp hy;have J:=aET.1 W.1 _ B;have hlt:=(U id' q (mCM _ B)).2
      have hn1:¬ (id'=id/\AT p q=true):=by
       rintro ⟨h1,h2⟩
       unfold QG at J;simp only[h1,beq_refl,Bool.not_true,Bool.false_or]at J;rw[(QH (x:=.dead) J .dead).2]at h2;cases h2
      show AJ σ.length [] (rrV id p σ.length (.rs id' q 0 (Ag r id' q).len))=_;simp only[rrV,if_neg hn1,AJ];rw[if_neg (by rintro ⟨h,_⟩;omega)]
      rfl
     |rs id' q a b=>obtain⟨z,A⟩:=Ho O hy;cases A
     |rp id' q a b=>obtain⟨z,A⟩:=Ho O hy;cases A
     |rm id' q=>obtain⟨z,A⟩:=Ho O hy;cases A
    rw[Y];refine ih l1 m _ (by omega) hp.2 O W.2 λid' q B=>?_
    obtain⟨h1,h2⟩:=U id' q (mCM _ B);have J:=aET.1 W.1 _ B;refine⟨?_,by simp;omega⟩
    have hlt:id'<(σ.set id (upd p (σ.getD id .dead) .dead)).length:=by simpa using h2
    rw[AD hlt];by_cases hii:id=id'
    .subst hii
     rw[Aj hid,<-h1];unfold QG at J;simp only[beq_refl,Bool.not_true,Bool.false_or]at J;exact(QH J _).1
    .rw[Ai hii,h1]
   |dead=>cases A
   |rs=>cases A
   |rp=>cases A
   |rm=>cases A
def AaM(r:List Ae):List Cl->Option (List Cl)
 |[.rp id [] 0 0]=>match r.getD id .dead with
  |.obj false l=>match DO l with
   |some ⟨t,x⟩=>bif l.any Cl.own then none else some [.c (.ptr t) 1 x]
   |none=>none
  |_=>none
 |[.rm id []]=>match r.getD id .dead with
  |.mp false kt A x=>some [.c (.mp kt A) 1 x]
  |_=>none
 |l=>M1 r l
theorem AaL{m:List Cl}(A:AaM s.r l=some m)(h3:l.all Cl.plain=true)(hd:Og (C1 l)=true):tkL (l.map (Cl.v s.r)).length (l.map (Cl.v s.r)) s.den.σ=m.map Cl.v0:=by
 unfold AaM at A;split at A
 .rename_i id
  split at A
  case h_2=>cases A
  rename_i l hr;split at A
  case h_2=>cases A
  rename_i t x hf;cases hb:l.any Cl.own with
  |true=>rw[hb]at A;cases A
  |false=>
  rw[hb]at A;cases A;have e1:=Hd _ _ hf
  have e2:(l.map Cl.v0).map frz=l.map Cl.v0:=by
   rw[map_map];refine map_congr_left λc hc=>Y8 ?_
   have:=List.any_eq_false.1 hb c hc;simpa using this
  have e3:tyV t 0 x=l.map Cl.v0:=e1.trans e2
  have J:s.den.σ.getD id .dead=Bp true (l.map Cl.v0):=by
   show(s.r.map Ae.v).getD id .dead=_;rw[Ax,hr];rfl
  show(match sub [] (s.den.σ.getD id .dead)with
   |.nd false true sz n f=>if 0=0/\0=0 then V.nd false true sz n f::[]else [.dead]
   |_=>[.dead])=[Bp (decide (0<1)) (tyV t 0 x)]
  rw[J,e3];rfl
 .rename_i id
  split at A
  case h_2=>cases A
  rename_i kt vt x hr;cases A;have J:s.den.σ.getD id .dead=mpV true kt vt x:=by
   show(s.r.map Ae.v).getD id .dead=_;rw[Ax,hr];rfl
  show(match sub [] (s.den.σ.getD id .dead)with
   |.mp true l=>V.mp true l::[]
   |_=>[.dead])=[mpV (decide (0<1)) kt vt x]
  rw[J];rfl
 .have hlt:∀id p,(id,p)∈C1 l->Ag s.r id p≠.dead:=by
   intro id p
   have key:∀(l Z:List Cl),M1 s.r l=some Z->(id,p)∈C1 l->Ag s.r id p≠.dead:=by
    intro l
    induction l with
    |nil=>intro Z _ h;cases h
    |cons y l ih=>
     intro Z Y A;unfold M1 at Y;split at Y
     case h_2=>cases Y
     rename_i z1 B;split at Y
     case h_2=>cases Y
     rename_i l2 W;cases y with
     |rf id' q=>
      rcases mem_cons.1 A with h|h
      .cases h
       intro hx
       have B:(match Ag s.r id p with
        |.arr _ t d xs=>some (Cl.c (.sl t) (d+1) xs)
        |_=>none)=some z1:=B
       rw[hx]at B;cases B
      .exact ih l2 W h
     |_=>exact ih l2 W A
   exact key _ _ A
  refine tkL_v s.r l m (l.map (Cl.v s.r)).length s.den.σ (by simp) h3 A hd λid p U=>?_
  have O:=hlt id p U;refine⟨AV O,?_⟩;show id<(s.r.map Ae.v).length;rw[length_map];rcases Nat.lt_or_ge id s.r.length with h|h
  .exact h
  .exfalso
   apply O;unfold Ag;rw[gDE,List.getElem?_eq_none h];exact CQ p
def retV1(Θ:Tab)(s:St):ResultVar->Option Sl
 |.tmp t=>some (s.t t)
 |.cell a t=>match VO s (Θ.look t) (s.ev (.tmp a))with
  |some (.ok y)=>some y
  |_=>none
def YC(Θ:Tab)(s:St):List ResultVar->Option (List Sl)
 |[]=>some []
 |v::l=>match retV1 Θ s v with
  |some y=>match YC Θ s l with
   |some m=>some (y::m)
   |none=>none
  |none=>none
def cellsOf:List Sl->Option (List (Bool×List Cl))
 |[]=>some []
 |y::l=>match y with
  |.one c=>match(Sl.one c).cells,cellsOf l with
   |some m,some n=>some ((false,m)::n)
   |_,_=>none
  |.agg c=>match(Sl.agg c).cells,cellsOf l with
   |some m,some n=>some ((true,m)::n)
   |_,_=>none
  |_=>none
def O9(t:Ty)(d:Nat)(l:List Cl):Option t.T:=Ij t d (l.map (fit d))
theorem Jx{t:Ty}{d:Nat}{x:t.T}(h:O9 t d l=some x)(r:List Ae):CV (l.map (Cl.v r)) (tyV t d x)/\l.map (Cl.v r)=l.map Cl.v0:=by
 have:=Dc h r
 have B:(l.map (fit d)).map (Cl.v r)=l.map (Cl.v r):=by
  rw[map_map];exact map_congr_left λc _=>(Ab2 d r c).1
 have A:(l.map (fit d)).map Cl.v0=l.map Cl.v0:=by
  rw[map_map];exact map_congr_left λc _=>(Ab2 d r c).2
 grind
def KU(b:Bool)(p:Bool×Nat×Ty)(l:List Cl):Option p.2.2.T:=bif b|| !isP p then O9 p.2.2 p.2.1 l else match l with
 |[.nilp]=>some p.2.2.dflt
 |_=>none
def Qj(b:Bool):(rs:List (Bool×Nat×Ty))->List (Bool×List Cl)->List Cl->Option (RT rs).T
 |[],[],[]=>some ()
 |[p],[q],l=>bif p.1==q.1&&(p.1||p.2.2.one)&&beq l.length q.2.length then KU b p l else none
 |p::B::rs,q::A::qs,l=>bif p.1==q.1&&(p.1||p.2.2.one)&&ble q.2.length l.length then(match KU b p (l.take q.2.length)with
  |some x=>match Qj b (B::rs) (A::qs) (l.drop q.2.length)with
   |some z=>some (x,z)
   |none=>none
  |none=>none)else none
 |_,_,_=>none
def Aco(b:Bool)(Θ:Tab)(A:List ResultVar)(rs:List (Bool×Nat×Ty))(s:St):Option (RT rs).T:=match YC Θ s A with
 |some ys=>match cellsOf ys with
  |some ls=>match AaM s.r (ls.flatMap (·.2))with
   |some m=>bif Og (C1 (ls.flatMap (·.2)))then Qj b rs ls m else none
   |none=>none
  |none=>none
 |none=>none
def retK(Θ:Tab)(A:List ResultVar)(rs:List (Bool×Nat×Ty)):Exit->St->Option (RT rs).T
 |.normal,s=>Aco true Θ A rs s
 |.ret,s=>Aco true Θ A rs s
 |_,_=>none
def pS(b:Bool)(t:Ty)(x:t.T):Sl:=bif b then .agg (AA t 0 x)else .one (.c t 0 x)
def X7:(l:List (Bool×Ty))->(PT l).T->List Sl
 |[],_=>[]
 |[p],x=>[pS p.1 p.2 x]
 |p::q::l,x=>pS p.1 p.2 x.1::X7 (q::l) x.2
def OU(l:List (Bool×Ty))(x:(PT l).T):St:=⟨λi=>(X7 l x).getD i (.one .dead),[]⟩
noncomputable def tfun(E:QV)(body:Code)(A:List ResultVar)(S:Sig)(x:(PT S.ps).T):Option (RT S.rs).T:=AaJ E body (OU S.ps x) (retK E.Θ A S.rs)
theorem Oj{s:St}:∀(ys:List Sl) (ls:List (Bool×List Cl)),cellsOf ys=some ls->(ys.map (Sl.v s.r)).all Bv=true/\(ys.map (Sl.v s.r)).flatMap Go.Ve.cellsV=(ls.flatMap (·.2)).map (Cl.v s.r)/\(ls.flatMap (·.2)).all Cl.plain=true/\ls.length=ys.length
 |[],ls,h=>by cases h;exact⟨rfl,rfl,rfl,rfl⟩
 |y::ys,ls,h=>by
  have go:∀(b:Bool) (m:List Cl) (n:List (Bool×List Cl)),y.cells=some m->cellsOf ys=some n->ls=(b,m)::n->((y::ys).map (Sl.v s.r)).all Bv=true/\((y::ys).map (Sl.v s.r)).flatMap Go.Ve.cellsV=(ls.flatMap (·.2)).map (Cl.v s.r)/\(ls.flatMap (·.2)).all Cl.plain=true/\ls.length=(y::ys).length:=by
   intro b m n B A e;subst e;obtain⟨O,Y,J⟩:=CT (r:=s.r) B;obtain⟨g1,g2,W,U⟩:=Oj ys n A;refine⟨by rw[map_cons,all_cons,O,g1];rfl,?_,?_,by simp[U]⟩
   .grind
   .rw[List.flatMap_cons,List.all_append,J,W];rfl
  unfold cellsOf at h;split at h
  .split at h
   .rename_i m n B A
    cases h;exact go _ _ _ B A rfl
   .cases h
  .split at h
   .rename_i m n B A
    cases h;exact go _ _ _ B A rfl
   .cases h
  .cases h
theorem DP{s:St}:∀(ys:List Sl) (ls:List (Bool×List Cl)),cellsOf ys=some ls->∀k,k<ls.length->((ls.getD k (false,[])).1=true/\(∃l,(ys.getD k (.one .dead)).v s.r=Am l/\l.length=(ls.getD k (false,[])).2.length))\/((ls.getD k (false,[])).1=false/\(∀t n f,(ys.getD k (.one .dead)).v s.r≠.many t n f)/\(ls.getD k (false,[])).2.length=1)
 |[],ls,h,k,hk=>by cases h;simp at hk
 |y::ys,ls,h,k,hk=>by
  unfold cellsOf at h;split at h
  .rename_i c
   split at h
   .rename_i m n A J
    cases h;cases k with
    |zero=>
     right;refine⟨rfl,?_,?_⟩
     .have A:(bif c.plain then some [c]else none)=some m:=A
      cases B:c.plain with
      |false=>rw[B]at A;cases A
      |true=>
       show ∀t n f,c.v s.r≠.many t n f;cases c with
       |c t d x=>cases t<;>first|(cases B;done)|(intro _ _ _ h;cases h)
       |_=>intro _ _ _ h;cases h
     .have A:(bif c.plain then some [c]else none)=some m:=A
      cases B:c.plain with
      |false=>rw[B]at A;cases A
      |true=>rw[B]at A;cases A;rfl
    |succ k=>exact DP ys n J k (by simpa using hk)
   .cases h
  .rename_i c
   split at h
   .rename_i m n A J
    cases h;cases k with
    |zero=>
     left;refine⟨rfl,c.map (Cl.v s.r),rfl,?_⟩;have A:(bif c.all Cl.plain then some c else none)=some m:=A;cases B:c.all Cl.plain with
     |false=>rw[B]at A;cases A
     |true=>rw[B]at A;cases A;simp
    |succ k=>exact DP ys n J k (by simpa using hk)
   .cases h
  .cases h
def YM(b:Bool):∀(rs:List (Bool×Nat×Ty)) (ls:List (Bool×List Cl)) (l:List Cl) (z:(RT rs).T) (J:List V),Qj b rs ls l=some z->J.length=ls.length->
  (∀k,k<ls.length->((ls.getD k (false,[])).1=true/\(∃m,J.getD k .dead=Am m/\m.length=(ls.getD k (false,[])).2.length))\/((ls.getD k (false,[])).1=false/\(∀t n f,J.getD k .dead≠.many t n f)/\(ls.getD k (false,[])).2.length=1))->
  CV (Bk J (l.map Cl.v0)) (Ul b rs z):=by
 -- one result
 have one:∀(p:Bool×Nat×Ty) (q:Bool×List Cl) (l:List Cl) (x:p.2.2.T) (v:V) (Z:List V) (A:List V),p.1=q.1->(p.1=true\/p.2.2.one=true)->l.length=q.2.length->KU b p l=some x->
   ((q.1=true/\(∃m,v=Am m/\m.length=q.2.length))\/(q.1=false/\(∀t n f,v≠.many t n f)/\q.2.length=1))->∃v',Bk (v::Z) (l.map Cl.v0++A)=v'::Bk Z A/\Sub v' (XZ b p x):=by
  intro p q l x v Z A h1 h2 B U Y;unfold KU at U;unfold XZ;cases W:b|| !isP p with
  |false=>
   rw[W]at U;simp only[cond_false]at U;split at U
   case h_2=>cases U
   have hp1:p.1=false:=by
    rw[Bool.or_eq_false_iff,Bool.not_eq_false']at W;have:=W.2;unfold isP at this;rw[bAE,Bool.not_eq_true']at this;exact this.1
   rcases Y with⟨hq,_⟩|⟨_,hv,_⟩
   .rw[<-h1,hp1]at hq;cases hq
   .refine⟨.c (.pointer none),?_,Sub.refl _⟩
    show Bk (v::Z) (.c (.pointer none)::A)=_;cases v with
    |many t n f=>exact absurd rfl (hv _ _ _)
    |_=>rfl
  |true=>
  rw[W]at U;simp only[cond_true]at U⊢;obtain⟨g1,g2⟩:=Jx U [];rw[g2]at g1;rcases Y with⟨hq,m,rfl,hm⟩|⟨hq,hv,hq1⟩
  .refine⟨Am (l.map Cl.v0),?_,?_⟩
   .show Am ((l.map Cl.v0++A).take m.length)::Bk Z ((l.map Cl.v0++A).drop m.length)=_
    have e:(l.map Cl.v0).length=m.length:=by rw[length_map,B,hm]
    rw[<-e,List.take_left,List.drop_left]
   .rw[h1,hq];exact g1.mk
  .have hp:p.1=false:=by rw[h1,hq]
   have ho:p.2.2.one=true:=by rcases h2 with h|h;rw[hp]at h;cases h;exact h
   rw[BN ho]at g1
   match l,B with
   |[y],_=>
    refine⟨y.v0,?_,?_⟩
    .show Bk (v::Z) (y.v0::A)=_
     cases v with
     |many t n f=>exact absurd rfl (hv _ _ _)
     |_=>rfl
    .rw[hp];exact g1.1
   |[],B=>rw[hq1]at B;cases B
   |_::_::_,B=>rw[hq1]at B;simp at B
 intro rs
 induction rs with
 |nil=>
  intro ls l z J h B Y;cases ls with
  |nil=>cases l with
   |nil=>cases J with
    |nil=>trivial
    |cons=>simp at B
   |cons=>cases h
  |cons=>cases h
 |cons p rs ih=>
  intro ls l z J h B Y;cases rs with
  |nil=>
   cases ls with
   |nil=>cases h
   |cons q ls=>cases ls with
    |cons=>cases h
    |nil=>
     have h:(bif p.1==q.1&&(p.1||p.2.2.one)&&beq l.length q.2.length then KU b p l else none)=some z:=h;obtain⟨O,h⟩:=Bc h;simp only[bAE,beq_iff_eq,Bool.or_eq_true]at O;cases J with
     |nil=>simp at B
     |cons v J=>cases J with
      |cons=>simp at B
      |nil=>
       obtain⟨v',e,hs⟩:=one p q l z v [] [] O.1.1 O.1.2 (bqE O.2) h (Y 0 (by simp))
       rw[List.append_nil]at e;rw[e];exact⟨hs,trivial⟩
  |cons p' rs=>
   cases ls with
   |nil=>cases h
   |cons q ls=>cases ls with
    |nil=>cases h
    |cons q' ls=>
     have h:(bif p.1==q.1&&(p.1||p.2.2.one)&&ble q.2.length l.length then(match KU b p (l.take q.2.length)with
      |some x=>match Qj b (p'::rs) (q'::ls) (l.drop q.2.length)with
       |some z=>some (x,z)
       |none=>none
      |none=>none)else none:Option (RT (p::p'::rs)).T)=some z:=h
     cases O:(p.1==q.1&&(p.1||p.2.2.one)&&ble q.2.length l.length)with
     |false=>rw[O]at h;cases h
     |true=>
      rw[O]at h;simp only[bAE,beq_iff_eq,Bool.or_eq_true]at O;simp only[cond_true]at h;split at h
      case h_2=>cases h
      rename_i x U;split at h
      case h_2=>cases h
      rename_i z2 hz2;cases h;cases J with
      |nil=>simp at B
      |cons v J=>
       have hlen:(l.take q.2.length).length=q.2.length:=by
        have:=blE O.2;rw[List.length_take];omega
       obtain⟨v',e,hs⟩:=one p q (l.take q.2.length) x v J ((l.drop q.2.length).map Cl.v0) O.1.1 O.1.2 hlen U (Y 0 (by simp))
       rw[<-List.map_append,List.take_append_drop]at e;rw[e];refine⟨hs,ih (q'::ls) (l.drop q.2.length) z2 J hz2 (by simpa using B) λk hk'=>?_⟩
       have:=Y (k+1) (by simpa using hk')
       simpa using this
theorem Wb{P:Program}{Θ:Tab}(O:Θ.OK P){s:St}{K:List V->Prop}:∀(J:List ResultVar) (ys:List Sl) (A:List V),YC Θ s J=some ys->K (A++ys.map (Sl.v s.r))->Vc P s.den J A K
 |[],ys,A,h,hK=>by cases h;show K A;grind
 |v::J,ys,A,h,hK=>by
  unfold YC at h;split at h
  case h_2=>cases h
  rename_i y U;split at h
  case h_2=>cases h
  rename_i m Y;cases h;have B:Vc P s.den J (A++[y.v s.r]) K:=Wb O J m _ Y (by grind)
  cases v with
  |tmp t=>
   cases U;exact B
  |cell a t=>
   unfold retV1 at U;simp at U;split at U
   .rename_i y' Z
    cases U;exact KM (PQ O Z trivial) λr0 W=>by rw[W];exact B
   grind
theorem P5{Θ:Tab}(U:Θ.OK P){O:List ResultVar}{rs:List (Bool×Nat×Ty)}{b:Bool}{z:(RT rs).T}(h:Aco b Θ O rs s=some z):Vc P s.den O [] (XR s.den.σ (Nk b rs z)):=by
 unfold Aco at h;split at h
 case h_2=>cases h
 rename_i ys W;split at h
 case h_2=>cases h
 rename_i ls J;split at h
 case h_2=>cases h
 rename_i m hm;obtain⟨hd,h⟩:=Bc h;refine Wb U O ys [] W ?_;rw[List.nil_append];obtain⟨h1,h2,h3,h4⟩:=Oj (s:=s) ys ls J;refine⟨h1,?_⟩;rw[h2];have Y:=AaL hm h3 hd
 .rw[Y]
  have B:=YM b rs ls m z (ys.map (Sl.v s.r)) h (by rw[length_map,h4]) λk hk=>?_
  .-- KR
   have Z:∀{a b:List V},CV a b->Sub (NL a) (NL b):=by
    intro a b A
    match a,b,A with
    |[],[],_=>exact Sub.refl _
    |[x],[y],A=>exact A.1
    |x::x'::a,y::y'::b,A=>
     show Sub (DC _) (DC _);unfold DC;rw[A.len];exact⟨_,rfl,λk _=>A.getD k⟩
    |[],_::_,A=>exact A.elim
    |_::_,[],A=>exact A.elim
    |[_],_::_::_,A=>exact A.2.elim
    |_::_::_,[_],A=>exact A.2.elim
   exact Z B
  .have:=DP (s:=s) ys ls J k hk
   simp_all
def pS_v(b:Bool)(t:Ty)(x:t.T):(pS b t x).v []=vOf b t 0 x:=by
 cases b with
 |true=>show Am ((AA t 0 x).map (Cl.v []))=_;rw[Cl.v_c];rfl
 |false=>rfl
def XG:∀(l:List (Bool×Ty)) (x:(PT l).T),(X7 l x).map (Sl.v [])=CU l x
 |[],x=>rfl
 |[p],x=>congrArg (λv=>[v]) (pS_v p.1 p.2 x)
 |p::q::l,x=>by
  show(pS p.1 p.2 x.1).v []::(X7 (q::l) x.2).map (Sl.v [])=vOf p.1 p.2 0 x.1::CU (q::l) x.2;rw[XG (q::l) x.2,pS_v]
def DR:∀(l:List (Bool×Ty)) (x:(PT l).T),(CU l x).length=l.length
 |[],_=>rfl
 |[_],_=>rfl
 |_::q::l,x=>by show(CU (q::l) x.2).length+1=_;rw[DR];rfl
theorem Zs{E:QV}{f:FuncId}{fn:Func}{body:Code}{S:Sig}(O:EOK P E.toEnv)(Z:P.follows .mixedOrders=true)(hf:P.funcs[f]? =some fn)(hb:fn.body=some body)(hn:max S.ps.length fn.ntmps=E.h.n):
  FT P f S (tfun E body fn.results.toList S):=by
 intro x y B;refine FC_of hf hb (by rw[DR];omega) λ_ C a w Q hCm W J=>?_
 have e:(OU S.ps x).den=⟨λi=>(CU S.ps x).getD i .dead,[]⟩:=by
  show Ms.mk (λi=>((X7 S.ps x).getD i (.one .dead)).v []) []=_
  congr 1
  funext i
  rw[<-XG S.ps x,AM (a:=.one .dead) rfl]
 rw[<-e]at W;rw[<-Jq]at J;refine PL O Z (by omega) body (OU S.ps x) _ y Q a w W B λe s' Y w' _ A U=>?_
 cases e with
 |normal=>exact J .normal s'.den Y w' (P5 O.Θ U) A
 |ret=>exact J .ret s'.den Y w' (P5 O.Θ U) A
 |exit id=>trivial
 |goto l=>trivial
 |panic ch=>trivial
 |outgrown=>trivial
end Go.Ve


namespace Go.Ve
variable{P:Program}
noncomputable def tfn(E:QV)(fn:Func)(S:Sig)(x:(PT S.ps).T):Option (RT S.rs).T:=match fn.body with
 |some b=>tfun E b fn.results.toList S x
 |none=>none
theorem FT_fn{E:QV}{f:FuncId}{fn:Func}{S:Sig}(B:Tab.OK P E.Θ)(J:Hh P E.Γ)(hW:∀e∈E.W,e.OK P)(hN:∀e∈E.N,e.OK P)(Z:P.follows .mixedOrders=true)(hf:P.funcs[f]? =some fn)(Y:max S.ps.length fn.ntmps=E.h.n){g:(PT S.ps).T->Option (RT S.rs).T}(hg:tfn E fn S=g)(hU:∀e∈E.U,e.OK P:=by exact Bg):FT P f S g:=by
 subst hg;intro x y A;unfold tfn at A;cases O:fn.body with
 |none=>grind
 |some b=>
  rw[O]at A;exact Zs ⟨B,J,hW,hN,hU⟩ Z hf O Y x y A
def Xw:∀e∈([]:List EnN),e.OK P:=by simp
theorem Ak:Hh P []:=λ_ h=>by grind
def Zi{e:En}{l:List En}(O:Be P e.f=true)(J:FT P e.f e.S e.g)(B:Hh P l):Hh P (e::l):=by
 intro x A;rcases mem_cons.1 A with rfl|A
 .trivial
 .exact B x A
end Go.Ve

