/- The typed machine over code: what a body computes, as a function; that it does. -/
import Derived.Test.YteakdlfnmhlifaaTl
open Nat(beq ble beq_refl)
open List(mem_singleton length_map mem_cons all_cons map_cons map_map)
set_option linter.all false
namespace Go.Ve
variable{C:Ctx}{cs:List Dy}{L Rh:List Nat}{b:List Oper}{d:Nat}{P:Program}{s:St}{u:Ty}{R X:Type}
inductive LO(X R:Type) where
 |next (x:X)
 |brk (id:Nat) (x:X)
 |ret (r:R)
inductive C0{X R:Type}(f:X->Option (LO X R)):X->LO X R->Nat->Prop where
 |brk {x y:X}{id:Nat}:f x=some (.brk id y)->C0 f x (.brk id y) 0
 |ret {x:X}{r:R}:f x=some (.ret r)->C0 f x (.ret r) 0
 |step {x y:X}{o:LO X R}{n:Nat}:f x=some (.next y)->C0 f y o n->C0 f x o (n+1)
noncomputable def Aq{X R:Type}(f:X->Option (LO X R))(x:X):Option (LO X R):=@dite _ (∃o n,C0 f x o n) (Classical.propDecidable _) (λh=>some (Classical.choose h)) λ_=>none
theorem C0.det{f:X->Option (LO X R)}:∀{x:X}{o B:LO X R}{n F:Nat},C0 f x o n->C0 f x B F->o=B/\n=F:=by
 intro x o B n F h
 induction h generalizing B F with
 |brk h=>intro A;cases A with
  |brk A=>grind
  |ret A=>grind
  |step A _=>grind
 |ret h=>intro A;cases A with
  |brk A=>grind
  |ret A=>grind
  |step A _=>grind
 |step h _ H=>intro A;cases A with
  |brk A=>grind
  |ret A=>grind
  |step A U=>grind
theorem CQ{f:X->Option (LO X R)}{x:X}{o:LO X R}:Aq f x=some o↔ ∃n,C0 f x o n:=by
 unfold Aq;split
 .rename_i h
  obtain⟨n,A⟩:=Classical.choose_spec h;constructor
  .grind
  .rintro ⟨F,B⟩;rw[(A.det B).1]
 grind
def A7(f:X->Option (LO X R))(x:X):Aq f x=(f x).bind λo=>match o with
  |.next y=>Aq f y
  |.brk id y=>some (.brk id y)
  |.ret r=>some (.ret r):=by
 cases B:f x with
 |none=>
  show Aq f x=none;cases h:Aq f x with
  |none=>rfl
  |some o=>
   obtain⟨n,F⟩:=CQ.1 h;cases F with
   |brk A=>rw[B]at A;cases A
   |ret A=>rw[B]at A;cases A
   |step A _=>rw[B]at A;cases A
 |some o=>
  cases o with
  |brk id y=>exact CQ.2 ⟨0,.brk B⟩
  |ret r=>exact CQ.2 ⟨0,.ret B⟩
  |next y=>
   show Aq f x=Aq f y;cases h:Aq f y with
   |some o=>obtain⟨n,F⟩:=CQ.1 h;exact CQ.2 ⟨n+1,.step B F⟩
   |none=>
    cases H:Aq f x with
    |none=>rfl
    |some o=>
     obtain⟨n,F⟩:=CQ.1 H;cases F with
     |brk A=>rw[B]at A;cases A
     |ret A=>rw[B]at A;cases A
     |step A h3=>rw[B]at A;cases A;rw[CQ.2 ⟨_,h3⟩]at h;cases h
def BK:List Ty->Ty
 |[]=>.unit
 |[t]=>t
 |t::u::l=>.pair t (BK (u::l))
def toX:(A:List Ty)->List Dy->Option (BK A).T
 |[],[]=>some ()
 |[t],[y]=>KE t y
 |t::u::l,y::ys=>match KE t y with
  |some x=>match toX (u::l) ys with
   |some z=>some (x,z)
   |none=>none
  |none=>none
 |_,_=>none
def ofX:(A:List Ty)->(BK A).T->List Dy
 |[],_=>[]
 |[t],x=>[⟨t,x⟩]
 |t::u::l,x=>⟨t,x.1⟩::ofX (u::l) x.2
theorem Y8:∀(A:List Ty) (cs:List Dy) (x:(BK A).T),toX A cs=some x->ofX A x=cs
 |[],[],x,h=>rfl
 |[t],[y],x,h=>by show [⟨t,x⟩]=[y];rw[Qk h]
 |t::u::l,y::ys,x,h=>by
  have h:(match KE t y with
   |some x=>match toX (u::l) ys with
    |some z=>some (x,z)
    |none=>none
   |none=>none:Option (BK (t::u::l)).T)=some x:=h
  split at h
  case h_2=>grind
  rename_i B H;split at h
  case h_2=>grind
  rename_i z F;cases h;show⟨t,B⟩::ofX (u::l) z=_;rw[Qk H,Y8 (u::l) ys z F]
 |[],_::_,_,h=>by cases h
 |[_],[],_,h=>by cases h
 |[_],_::_::_,_,h=>by cases h
 |_::_::_,[],_,h=>by cases h
structure Ih extends Env where
 lp:List (Nat×List Nat×List Nat)
 dn:List (Nat×Nat)
variable{E:Ih}
def BS:Code->Nat
 |.region id _ _=>id
 |.seq a b=>match a with
  |.skip=>BS b
  |.label _=>BS b
  |a=>BS a
 |.block _ b=>BS b
 |.loop b=>BS b
 |.scope b=>BS b
 |_=>0
def Bk:Code->List Oper
 |.region _ ops _=>ops.toList
 |.seq a b=>Bk a++Bk b
 |.cond _ a b=>Bk a++Bk b
 |.block _ b=>Bk b
 |.loop b=>Bk b
 |.scope b=>Bk b
 |_=>[]
def O0:Code->List Nat
 |.exit id=>[id]
 |.seq a b=>O0 a++O0 b
 |.cond _ a b=>O0 a++O0 b
 |.block id b=>(O0 b).filter λi=>!beq i id
 |.loop b=>O0 b
 |_=>[]
def lookN{α:Type}(d:α):List (Nat×α)->Nat->α
 |[],_=>d
 |(i,x)::l,k=>bif beq i k then x else lookN d l k
def clId:Cl->List Nat
 |.rf id _=>[id]
 |.rp id _ _ _=>[id]
 |.rs id _ _ _=>[id]
 |.rm id _=>[id]
 |_=>[]
def slId:Sl->List Nat
 |.one c=>clId c
 |.pk _ l=>l.flatMap clId
 |_=>[]
def condN(s:St)(c:Nat):Bool:=bif ble 2000000 c then(match slId (s.t (c-2000000))with
 |[]=>true
 |_=>false)else bif ble 1000000 c then(slId (s.t ((c-1000000)/1000))).any λi=>beq i ((c-1000000) % 1000)else true
def ZE(s:St):List (Nat×List Nat×List Nat)->Nat->List Nat×List Nat
 |[],_=>([],[])
 |(i,L,R)::l,k=>bif beq i k then(bif R.all (condN s)then(L,R.filter λc=>!ble 1000000 c)else ZE s l k)else ZE s l k
def X2(o:Oper):Bool:=match o.op with
 |.store _ _ _=>true
 |_=>false
def AcA(o:Oper):Bool:=match o.op with
 |.build _ _=>true
 |.buildSlice _ _ _=>true
 |_=>X2 o
def X4(E:Env)(o:Oper):Bool:=X2 o||match XR E o with
 |some (.app _ _ _ _)=>true
 |some (.cw _ _ _)=>true
 |_=>false
def Wt:List Oper->Nat
 |[]=>0
 |o::l=>match o.op with
  |.assign _=>Wt l+1
  |_=>0
def isNew(ops:Array Oper)(y:Nat):Bool:=ops.toList.any λo=>match o.op,o.dst with
 |.alloc _,some d=>beq d y
 |_,_=>false
def isMade(ops:Array Oper)(y:Nat):Bool:=ops.toList.any λo=>match o.dst with
 |some d=>beq d y&&(match o.op with
  |.buildSlice _ _ _=>true
  |.makeSlice _ _ _=>true
  |op=>(YE op).isSome)
 |none=>false
def isLate(E:Env)(ops:Array Oper)(o:Oper):Bool:=match o.op with
 |.mapUpdate _ _ _ _=>true
 |.store _ (.tmp y) _=>!isNew ops y
 |.store _ _ _=>true
 |_=>match YE o.op with
  |some (_,.tmp y,_)=>!isMade ops y
  |some _=>true
  |none=>X4 E o
def headD(E:Env)(ops:Array Oper):Nat:=bif ops.toList.any (X4 E)then ops.toList.findIdx (λo=>AcA o||X4 E o)else
 bif It ops (ops.size-Wt ops.toList.reverse)then ops.size-Wt ops.toList.reverse else ops.size
def headN(E:Ih)(id:Nat)(ops:Array Oper):Nat:=lookN (bif It ops (headD E.toEnv ops)then headD E.toEnv ops else ops.toList.findIdx (isLate E.toEnv ops)) E.dn id
def brkK{R:Type}(K:Exit->St->Option R):List Nat->Nat->St->Option R
 |[],_,_=>none
 |i::l,id,s=>nif id i (K (.exit i) s) (brkK K l id s)
@[reducible] def Ck {X R:Type} (o:Option R):Option (LO X R):=o.map .ret
@[reducible] def LO.fin {X R:Type} (f:Nat->X->Option R):LO X R->Option R
 |.brk id x=>f id x
 |.ret r=>some r
 |.next _=>none
def VJ{R:Type}(L Rh:List Nat)(s:St)(keep:Nat)(A:List Ty)(K:Exit->St->Option R)(e:Exit)(s':St):Option (LO (BK A).T R):=match e with
 |.normal=>match AcK L Rh s s' keep with
  |some cs=>match toX A cs with
   |some x=>some (.next x)
   |none=>none
  |none=>none
 |.exit id=>match AcK L Rh s s' keep with
  |some cs=>match toX A cs with
   |some x=>some (.brk id x)
   |none=>none
  |none=>none
 |.ret=>Ck (K .ret s')
 |_=>none
def Aad{R:Type}(b:Code)(L Rh:List Nat)(s:St)(A:List Ty)(K:Exit->St->Option R):LO (BK A).T R->Option R:=
 LO.fin λid x=>brkK K (O0 b).eraseDups id (Bu false (Bk b) L Rh s (ofX A x))
def OI(b:List Oper)(L Rh:List Nat)(s:St):Bool:=L.all (λd=>!(Ao b d&&(s.t d).stay))&&Rh.all λi=>!(s.r.getD i .dead).isRo
def MW:List Nat->St->St
 |[],s=>s
 |id::l,s=>match s.r.getD id .dead with
  |.arr false (.sl u) d xs=>bif beq u.dep 0 then MW l ⟨s.t,s.r.set id (.arr false (.osl u) d (OG xs))⟩else MW l s
  |_=>MW l s
def ozOf:List (Nat×Nat)->Nat->List Nat
 |[],_=>[]
 |(a,b)::l,k=>bif beq a (k+1000000)then b::ozOf l k else ozOf l k
def J7:∀(u:Ty) (d:Nat) (x:u.T),u.dep=0->∀c∈Ar u d x,∀ro,c.node ro=.dead
 |.int _,_,_,_,c,h,_=>by rw[mem_singleton.1 h];rfl
 |.bool,_,_,_,c,h,_=>by rw[mem_singleton.1 h];rfl
 |.str,_,_,_,c,h,_=>by rw[mem_singleton.1 h];rfl
 |.unit,_,_,_,c,h,_=>by cases h
 |.pair a b,d,x,hd,c,h,ro=>by
  simp[Ty.dep]at hd;rcases List.mem_append.1 h with h|h
  .exact J7 a d x.1 (by omega) c h ro
  .exact J7 b d x.2 (by omega) c h ro
 |.sl _,_,_,h,_,_,_=>by trivial
 |.ptr _,_,_,h,_,_,_=>by trivial
 |.clo _ _,_,_,h,_,_,_=>by trivial
 |.osl _,_,_,h,_,_,_=>by trivial
def Ul{α:Type}(xs:List (List α))(i:Nat):(OG xs).getD i (some [])=some (xs.getD i []):=by
 unfold OG;simp
def Acg{xs:List (List u.T)}:(Aa.arr false (.osl u) d (OG xs)).v=(Aa.arr false (.sl u) d xs).v:=by
 show arr true 1 (tyV (.osl u) d) (some []) (OG xs)=arr true 1 (tyV (.sl u) d) [] xs;unfold arr;have A:(OG xs).length=xs.length:=by simp[OG]
 congr 1
 funext i k
 rw[Ul];rfl
def XE{xs:List (List u.T)}(F:u.dep=0):∀q:AI,((Aa.arr false (.osl u) d (OG xs)).at' q).len=((Aa.arr false (.sl u) d xs).at' q).len
 |[]=>by show(OG xs).length=xs.length;simp[OG]
 |(i,0)::q=>by
  show(((Cl.c (.osl u) d ((OG xs).getD i (some []))).node false).at' q).len=(((Cl.c (.sl u) d (xs.getD i [])).node false).at' q).len;rw[Ul];cases d with
  |zero=>rfl
  |succ d=>
   cases q with
   |nil=>rfl
   |cons a q=>
    obtain⟨A,k2⟩:=a;show(((([]:List Cl).getD k2 .dead).node false).at' q).len=((((Ar u d ((xs.getD i []).getD A u.dflt)).getD k2 .dead).node false).at' q).len
    have e:((Ar u d ((xs.getD i []).getD A u.dflt)).getD k2 .dead).node false=.dead:=by
     by_cases B:k2<(Ar u d ((xs.getD i []).getD A u.dflt)).length
     .rw[gDE,gEE B]
      exact J7 u d _ F _ (List.getElem_mem B) _
     .rw[gDE,List.getElem?_eq_none (by omega)];rfl
    rw[e];rfl
 |(i,k+1)::q=>by
  rfl
theorem HO:∀(l:List Nat) (s:St),(MW l s).den=s.den/\∀g,Kp g s (MW l s)
 |[],s=>⟨rfl,λg=>Kp.refl _ _⟩
 |id::l,s=>by
  unfold MW;split
  .rename_i u d xs F
   cases hb:beq u.dep 0 with
   |false=>exact HO l s
   |true=>
    have Y:=bqE hb;obtain⟨h1,h2⟩:=HO l ⟨s.t,s.r.set id (.arr false (.osl u) d (OG xs))⟩;have U:id<s.r.length:=by
     grind
    have Z:∀id' q,(Ac (s.r.set id (.arr false (.osl u) d (OG xs))) id' q).len=(Ac s.r id' q).len:=by
     intro id' q;by_cases W:id'=id
     .subst W
      unfold Ac;have e:(s.r.set id' (.arr false (.osl u) d (OG xs))).getD id' .dead=.arr false (.osl u) d (OG xs):=by simp[U]
      rw[e,F];exact XE Y q
     .rw[Bd W]
    have B:(s.r.set id (.arr false (.osl u) d (OG xs))).map Aa.v=s.r.map Aa.v:=by
     rw[List.map_set,Acg,<-F];apply List.ext_getElem?
     grind
    refine⟨?_,λg=>?_⟩
    .show(MW l _).den=_
     rw[h1];unfold St.den;simp only[B]
     congr 1
     funext i
     exact Sl.v_lens Z _
    .refine Kp.trans (s1:=⟨s.t,s.r.set id (.arr false (.osl u) d (OG xs))⟩) (g1:=g) (g2:=g) ⟨λi _ _=>rfl,λid' _ A=>?_,by simp⟩ (h2 g) (λ_ h=>h) λ_ h=>h
     have H:id≠id':=by
      rintro rfl
      rw[F]at A;cases A
     simp only[gDE,List.getElem?_set_ne H]
  .exact HO l s
noncomputable def CA(H:Code->{R:Type}->St->(Exit->St->Option R)->Option R)(E:Ih):Code->{R:Type}->St->(Exit->St->Option R)->Option R
 |.skip,_,s,K=>K .normal s
 |.region _ ops false,_,s,K=>tops E.toEnv ops (YV ops.size ops.toList) s (K .normal)
 |.region id ops true,_,s,K=>AbE E.toEnv (headN E id ops) ops s (K .normal)
 |.seq a b,_,s,K=>CA H E a s λe s'=>match e with
  |.normal=>CA H E b s' K
  |.exit id=>K (.exit id) s'
  |.ret=>K .ret s'
  |.goto l=>K (.goto l) s'
  |_=>none
 |.cond c x y,_,s,K=>match s.ev c with
  |some (.one (.c .bool _ b))=>V5 b (CA H E x s K) (CA H E y s K)
  |_=>none
 |.block id b,_,s,K=>CA H E b s λe s'=>match e with
  |.exit i=>bif beq i id then K .normal s' else K (.exit i) s'
  |.normal=>K .normal s'
  |.ret=>K .ret s'
  |.goto l=>K (.goto l) s'
  |_=>none
 |.loop b,R,s0,K=>match MW (ozOf E.dn (BS b)) s0 with
  |s=>match ZE s E.lp (BS b)with
  |(L,Rh)=>bif OI (Bk b) L Rh s then(match AcK L Rh s s E.h.keep with
   |some cs=>match toX (cs.map (·.t)) cs with
    |some x=>DO (Aq (λx=>CA H E b (Bu true (Bk b) L Rh s (ofX (cs.map (·.t)) x)) (VJ L Rh s E.h.keep (cs.map (·.t)) K)) x) (Aad b L Rh s (cs.map (·.t)) K)
    |none=>none
   |none=>none)else none
 |.exit id,_,s,K=>K (.exit id) s
 |.label _,_,s,K=>K .normal s
 |.goto l,_,s,K=>K (.goto l) s
 |.ret,_,s,K=>K .ret s
 |.scope c,_,s,K=>H c s K
 |_,_,_,_=>none
noncomputable def Mm(E:Ih):Code->{R:Type}->St->(Exit->St->Option R)->Option R:=CA (λ_ _ _ _=>.none) E
theorem Kn{t0:Nat->Sl}:∀(L:List Nat) (cs:List Dy) (t:Nat->Sl) (i:Nat),L.contains i=false->(K5 t0 L cs t).1 i=t i
 |[],cs,t,i,_=>rfl
 |d::L,cs,t,i,h=>by
  rw[List.contains_cons,Bool.or_eq_false_iff]at h;unfold K5;rw[Kn L _ _ i h.2];have A:i≠d:=by
   grind
  exact AU A
def H3{A:List Aa}:∀(Rh:List Nat) (cs:List Dy) (r:List Aa) (i:Nat),Rh.contains i=false->(Ho A Rh cs r).getD i .dead=r.getD i .dead
 |[],cs,r,i,_=>rfl
 |d::L,cs,r,i,h=>by
  rw[List.contains_cons,Bool.or_eq_false_iff]at h;unfold Ho;rw[H3 L _ _ i h.2]
  grind
def H2{A:List Aa}:∀(Rh:List Nat) (cs:List Dy) (r:List Aa),(Ho A Rh cs r).length=r.length
 |[],cs,r=>rfl
 |d::L,cs,r=>by unfold Ho;rw[H2 L,List.length_set]
theorem X9{ro:Bool}(h:OI b L Rh s=true):Kp (Ao b) s (Bu ro b L Rh s cs):=by
 unfold OI at h;rw[bAE]at h;refine⟨λi hi F=>?_,λid H A=>?_,?_⟩
 .have B:L.contains i=false:=by
   grind
  show(K5 s.t L cs _).1 i=_;rw[Kn L _ _ i B];show(bif Ao b i&&(s.t i).stay then s.t i else _)=_;rw[hi,F];rfl
 .have B:Rh.contains id=false:=by
   grind
  show(Ho s.r Rh _ (bif ro then s.r.map Bz else s.r)).getD id .dead=_;rw[H3 Rh _ _ id B];cases ro with
  |false=>rfl
  |true=>
   show(s.r.map Bz).getD id .dead=_
   have e:(s.r.map Bz).getD id .dead=Bz (s.r.getD id .dead):=by
    simp only[gDE,List.getElem?_map];cases s.r[id]? <;>rfl
   rw[e];generalize s.r.getD id .dead=x at A;cases x with
   |dead=>rfl
   |obj ro l=>have A:ro=true:=A;subst A;rfl
   |arr ro t d xs=>have A:ro=true:=A;subst A;rfl
   |opt ro t d xs=>have A:ro=true:=A;subst A;rfl
   |mp ro k v xs=>have A:ro=true:=A;subst A;rfl
 .show s.r.length<=(Ho s.r Rh _ (bif ro then s.r.map Bz else s.r)).length
  rw[H2];cases ro<;>simp
theorem VQ{s':St}(U:Kp (Ao b) (Bu true b L Rh s cs) s'):
  (∀i,L.contains i=false->Ao b i=true->(s.t i).stay=true->s'.t i=s.t i)/\
  (∀id,id<s.r.length->Rh.contains id=false->(s'.r.getD id .dead).v=(s.r.getD id .dead).v/\(s'.r.getD id .dead).len=(s.r.getD id .dead).len)/\
  (∀id,id<s.r.length->Rh.contains id=false->∀q:AI,((s'.r.getD id .dead).at' q).len=((s.r.getD id .dead).at' q).len):=by
 have Y:∀id,id<s.r.length->Rh.contains id=false->s'.r.getD id .dead=Bz (s.r.getD id .dead):=λid H F=>by
  have e:(Bu true b L Rh s cs).r.getD id .dead=Bz (s.r.getD id .dead):=by
   show(Ho s.r Rh _ (s.r.map Bz)).getD id .dead=_;rw[H3 Rh _ _ id F]
   grind
  have B:(Bz (s.r.getD id .dead)).isRo=true:=by cases s.r.getD id .dead<;>rfl
  have A:(Bu true b L Rh s cs).r.length=s.r.length:=by
   show(Ho s.r Rh _ (s.r.map Bz)).length=_;rw[H2,length_map]
  rw[U.r id (by rw[A];exact H) (by rw[e];exact B),e]
 refine⟨λi F hi W=>?_,λid H F=>?_,λid H F q=>by rw[Y id H F];exact Aav q _ _ (JM _)⟩
 .have e:(Bu true b L Rh s cs).t i=s.t i:=by
   show(K5 s.t L cs _).1 i=_;rw[Kn L _ _ i F]
   grind
  rw[U.t i hi (by rw[e];exact W),e]
 .have e:(Bu true b L Rh s cs).r.getD id .dead=Bz (s.r.getD id .dead):=by
   show(Ho s.r Rh _ (s.r.map Bz)).getD id .dead=_;rw[H3 Rh _ _ id F]
   grind
  have B:(Bz (s.r.getD id .dead)).isRo=true:=by cases s.r.getD id .dead<;>rfl
  have A:(Bu true b L Rh s cs).r.length=s.r.length:=by
   show(Ho s.r Rh _ (s.r.map Bz)).length=_;rw[H2,length_map]
  rw[U.r id (by rw[A];exact H) (by rw[e];exact B),e]
  exact MD _
theorem Pg{R:Type}{K:Exit->St->Option R}{z:R}{s:St}:∀(l:List Nat) (id:Nat),brkK K l id s=some z->K (.exit id) s=some z
 |[],id,h=>by cases h
 |i::l,id,h=>by
  have h:(if id=i then K (.exit i) s else brkK K l id s)=some z:=h
  split at h
  .grind
  .exact Pg l id h
def Acq{P:Program}{H:Code->{R:Type}->St->(Exit->St->Option R)->Option R}(F:C.m<=E.h.keep){b:Code}
  (ih:∀{R:Type} (s:St) (K:Exit->St->Option R) (z:R) (Q:Exit->Act->World->Prop) (a:Act) (w:World),AA C E.h.n s.den a w->CA H E b s K=some z->(∀e s' Z w',Kp (Ao (Bk b)) s s'->AA C E.h.n s'.den Z w'->K e s'=some z->Q e Z w')->b.wp P Q a w)
  {R:Type}{s:St}{K:Exit->St->Option R}{z:R}{Q:Exit->Act->World->Prop}{a:Act}{w:World} (hs:AA C E.h.n s.den a w) {L Rh:List Nat} (hok:OI (Bk b) L Rh s=true) {A:List Ty}{cs:List Dy} (hcs:AcK L Rh s s E.h.keep=some cs) {x0:(BK A).T} (hx0':ofX A x0=cs)
  (h:(Aq (λx=>CA H E b (Bu true (Bk b) L Rh s (ofX A x)) (VJ L Rh s E.h.keep A K)) x0).bind (Aad b L Rh s A K)=some z)
  (hQ:∀e s' Z w',Kp (Ao (Bk b)) s s'->AA C E.h.n s'.den Z w'->K e s'=some z->Q e Z w'):(Code.loop b).wp P Q a w:=by
 obtain⟨hd0,hdd0,D0,ρ0,F0,hcr0⟩:=id hs;have hml:C.m<=s.r.length:=by have:=hcr0.ml;simpa [St.den]using this
 let body:(BK A).T->Option (LO (BK A).T R):=λx=>CA H E b (Bu true (Bk b) L Rh s (ofX A x)) (VJ L Rh s E.h.keep A K)
 have h:(Aq body x0).bind (Aad b L Rh s A K)=some z:=h;cases hl:Aq body x0 with
 |none=>rw[hl]at h;cases h
 |some o0=>
  rw[hl]at h;have h:Aad b L Rh s A K o0=some z:=h;obtain⟨n0,hn0⟩:=CQ.1 hl
  have h0:AA C E.h.n (Bu true (Bk b) L Rh s (ofX A x0)).den a w:=by
   rw[hx0'];exact Qd hs hcs F hml (λ_ _ _ _=>rfl) (λ_ _ _=>⟨rfl,rfl⟩) λ_ _ _ _=>rfl
  let I':Act->World->Prop:=λa w=>∃x n o,C0 body x o n/\Aad b L Rh s A K o=some z/\AA C E.h.n (Bu true (Bk b) L Rh s (ofX A x)).den a w
  have hmin:∀(a:Act) (w:World),∃k,I' a w->(∃x n o,C0 body x o n/\Aad b L Rh s A K o=some z/\AA C E.h.n (Bu true (Bk b) L Rh s (ofX A x)).den a w/\n=k)/\∀x n o,C0 body x o n->Aad b L Rh s A K o=some z->AA C E.h.n (Bu true (Bk b) L Rh s (ofX A x)).den a w->k<=n:=by
   intro a w;by_cases hI:I' a w
   .obtain⟨x,n,o,g1,g2,g3⟩:=hI
    obtain⟨k,hk,hlt⟩:=VL (p:=λk=>∃x n o,C0 body x o n/\Aad b L Rh s A K o=some z/\AA C E.h.n (Bu true (Bk b) L Rh s (ofX A x)).den a w/\n=k) ⟨n,x,n,o,g1,g2,g3,rfl⟩
    exact⟨k,λ_=>⟨hk,λx n o g1 g2 g3=>Nat.le_of_not_lt λhl=>hlt n hl ⟨x,n,o,g1,g2,g3,rfl⟩⟩⟩
   .exact⟨0,λh=>absurd h hI⟩
  let μ':Act->World->Nat:=λa w=>Classical.choose (hmin a w)
  have hμ':=λa w hI=>Classical.choose_spec (hmin a w) hI
  refine wp_loop I' μ' ⟨x0,n0,o0,hn0,h,h0⟩ λa w hI=>?_
  obtain⟨⟨x,n,o,g1,g2,g3,hn⟩,_⟩:=hμ' a w hI;have hn:n=μ' a w:=hn
  -- the round's own answer
  have hround:∃lo,body x=some lo/\((∃y n',lo=.next y/\C0 body y o n'/\n=n'+1)\/(lo=o)):=by
   cases g1 with
   |brk h'=>exact⟨_,h',.inr rfl⟩
   |ret h'=>exact⟨_,h',.inr rfl⟩
   |step h' h2=>exact⟨_,h',.inl ⟨_,_,rfl,h2,rfl⟩⟩
  obtain⟨lo,hlo,U⟩:=hround;refine ih _ _ lo _ a w g3 hlo λe s' Z w' hk hs' B=>?_
  obtain⟨f1,f2,f3⟩:=VQ hk;have hk0:Kp (Ao (Bk b)) s s':=Kp.trans (X9 hok) hk (λ_ h=>h) λ_ h=>h
  cases e with
  |normal=>
   unfold VJ at B;simp only at B;split at B
   case h_2=>cases B
   rename_i cs2 Y;split at B
   case h_2=>cases B
   rename_i x2 hx2;cases B;rcases U with⟨y,n',W,hl2,hnn⟩|W
   .cases W
    have hs2:AA C E.h.n (Bu true (Bk b) L Rh s (ofX A x2)).den Z w':=by
     rw[Y8 _ _ _ hx2];exact Qd hs' Y F hml f1 f2 f3
    have hI2:I' Z w':=⟨x2,n',o,hl2,g2,hs2⟩;refine⟨hI2,?_⟩;have:=(hμ' Z w' hI2).2 x2 n' o hl2 g2 hs2;have:μ' Z w'<=n':=this;omega
   .subst W
    cases g2
  |exit id=>
   unfold VJ at B;simp only at B;split at B
   case h_2=>cases B
   rename_i cs2 Y;split at B
   case h_2=>cases B
   rename_i x2 hx2;cases B;rcases U with⟨y,n',W,_⟩|W
   .cases W
   .subst W
    have g2:brkK K (O0 b).eraseDups id (Bu false (Bk b) L Rh s (ofX A x2))=some z:=g2
    have hs2:AA C E.h.n (Bu false (Bk b) L Rh s (ofX A x2)).den Z w':=by
     rw[Y8 _ _ _ hx2];exact Qd hs' Y F hml f1 f2 f3
    exact hQ _ _ _ _ (X9 hok) hs2 (Pg _ _ g2)
  |ret=>
   have B:(K .ret s').map LO.ret=some lo:=B;cases hkr:K .ret s' with
   |none=>rw[hkr]at B;cases B
   |some r=>
    rw[hkr]at B;cases B;rcases U with⟨y,n',W,_⟩|W
    .cases W
    .subst W
     cases g2;exact hQ _ _ _ _ hk0 hs' hkr
  |goto l=>cases B
  |panic ch=>cases B
  |outgrown=>cases B
def NA(P:Program)(E:Ih)(C:Ctx)(H:Code->{R:Type}->St->(Exit->St->Option R)->Option R):Prop:=
 ∀(c:Code) {R:Type} (s:St) (K:Exit->St->Option R) (z:R) (Q:Exit->Act->World->Prop) (a:Act) (w:World),AA C E.h.n s.den a w->H c s K=some z->
  (∀e s' A w',Kp (Ao (Bk c)) s s'->AA C E.h.n s'.den A w'->K e s'=some z->Q e A w')->(Code.scope c).wp P Q a w
theorem WA{H:Code->{R:Type}->St->(Exit->St->Option R)->Option R}(hE:EOK P E.toEnv)(hm:P.follows .mixedOrders=true)(hkeep:C.m<=E.h.keep)(hH:NA P E C H):∀(c:Code) {R:Type} (s:St) (K:Exit->St->Option R) (z:R) (Q:Exit->Act->World->Prop) (a:Act) (w:World),AA C E.h.n s.den a w->CA H E c s K=some z->
  (∀e s' Z w',Kp (Ao (Bk c)) s s'->AA C E.h.n s'.den Z w'->K e s'=some z->Q e Z w')->c.wp P Q a w:=by
 intro c
 induction c with
 |skip=>intro R s K z Q a w U h A;exact wp_skip (A _ _ _ _ (Kp.refl _ _) U h)
 |region id ops draw=>
  intro R s K z Q a w U h A;cases draw with
  |false=>
   have h:tops E.toEnv ops (YV ops.size ops.toList) s (K .normal)=some z:=h;refine wp_region_list ?_;have:=Wx hE (ops:=ops) (Q:=Q) _ s a w U h λs' Z w' Y B W=>A .normal s' Z w' (by rw[Ch]at Y;exact Y) B W
   rw[Ch]at this;exact this
  |true=>exact Za hE hm U h λs' Z w' Y B W=>A .normal s' Z w' Y B W
 |seq x y ihx ihy=>
  intro R s K z Q a w U h A
  have hsp:∀i,Ao (Bk (.seq x y)) i=true->Ao (Bk x) i=true/\Ao (Bk y) i=true:=λi hi=>by
   have hi:Ao (Bk x++Bk y) i=true:=hi;rw[J8,bAE]at hi;exact hi
  refine wp_seq (ihx s _ z _ a w U h λe s' Z w' Y B W=>?_)
  have hk':Kp (Ao (Bk (.seq x y))) s s':=Y.weak λi hi=>(hsp i hi).1
  cases e with
  |normal=>exact ihy s' K z Q Z w' B W λe2 s2 a2 w2 hk2 hs2 hz2=>A e2 s2 a2 w2 (Y.trans hk2 (λi hi=>(hsp i hi).1) λi hi=>(hsp i hi).2) hs2 hz2
  |exit id=>exact A _ _ _ _ hk' B W
  |ret=>exact A _ _ _ _ hk' B W
  |goto l=>exact A _ _ _ _ hk' B W
  |panic ch=>cases W
  |outgrown=>cases W
 |cond c x y ihx ihy=>
  intro R s K z Q a w U h A
  have hsp:∀i,Ao (Bk (.cond c x y)) i=true->Ao (Bk x) i=true/\Ao (Bk y) i=true:=λi hi=>by
   have hi:Ao (Bk x++Bk y) i=true:=hi;rw[J8,bAE]at hi;exact hi
  have h:(match s.ev c with
   |some (.one (.c .bool _ b))=>bif b then CA H E x s K else CA H E y s K
   |_=>none)=some z:=h
  split at h
  .rename_i d b hb
   obtain⟨hdd,D,ρ,F,hcr⟩:=U.2;have h1:=Bh hcr hdd c;rw[Bg hb]at h1;refine wp_cond (t:=b) h1.1 ?_;cases b with
   |true=>exact ihx s K z Q a w U h λe s' Z w' Y=>A e s' Z w' (Y.weak λi hi=>(hsp i hi).1)
   |false=>exact ihy s K z Q a w U h λe s' Z w' Y=>A e s' Z w' (Y.weak λi hi=>(hsp i hi).2)
  .cases h
 |block id b ih=>
  intro R s K z Q a w U h A;refine wp_block (ih s _ z _ a w U h λe s' Z w' Y B W=>?_)
  cases e with
  |exit id'=>
   simp only[Exit.inBlock];have W:(bif beq id' id then K .normal s' else K (.exit id') s')=some z:=W;by_cases he:id'=id
   .subst he
    rw[beq_refl]at W;rw[if_pos rfl];exact A _ _ _ _ Y B W
   .rw[BB he]at W
    rw[if_neg he];exact A _ _ _ _ Y B W
  |normal=>exact A _ _ _ _ Y B W
  |ret=>exact A _ _ _ _ Y B W
  |goto l=>exact A _ _ _ _ Y B W
  |panic ch=>cases W
  |outgrown=>cases W
 |loop b ih=>
  intro R s0 K z Q a w U h A;unfold CA at h;obtain⟨s,hso⟩:∃s,s=MW (ozOf E.dn (BS b)) s0:=⟨_,rfl⟩;rw[<-hso]at h;obtain⟨hden,hkp⟩:=HO (ozOf E.dn (BS b)) s0;rw[<-hso]at hden hkp;rw[<-hden]at U;have A:∀e s' Z w',Kp (Ao (Bk (.loop b))) s s'->AA C E.h.n s'.den Z w'->K e s'=some z->Q e Z w':=λe s' Z w' Y=>A e s' Z w' ((hkp _).trans Y (λ_ h=>h) λ_ h=>h)
  have h:(match ZE s E.lp (BS b)with
   |(L,Rh)=>bif OI (Bk b) L Rh s then(match AcK L Rh s s E.h.keep with
    |some cs=>match toX (cs.map (·.t)) cs with
     |some x=>DO (Aq (λx=>CA H E b (Bu true (Bk b) L Rh s (ofX (cs.map (·.t)) x)) (VJ L Rh s E.h.keep (cs.map (·.t)) K)) x) (Aad b L Rh s (cs.map (·.t)) K)
     |none=>none
    |none=>none)else none)=some z:=h
  split at h
  rename_i L Rh hlp;obtain⟨hok,h⟩:=A1 h;split at h
  case h_2=>cases h
  rename_i cs hcs;split at h
  case h_2=>cases h
  rename_i x0 hx0;have hx0':=Y8 _ _ _ hx0;exact Acq hkeep ih U hok hcs hx0' h A
 |exit id=>intro R s K z Q a w U h A;exact wp_exit (A _ _ _ _ (Kp.refl _ _) U h)
 |label l=>intro R s K z Q a w U h A;exact wp_label (A _ _ _ _ (Kp.refl _ _) U h)
 |ret=>intro R s K z Q a w U h A;exact wp_ret (A _ _ _ _ (Kp.refl _ _) U h)
 |goto l=>intro R s K z Q a w U h A;exact wp_goto (A _ _ _ _ (Kp.refl _ _) U h)
 |rangeFunc f ps x y _ _=>intro R s K z Q a w U h A;cases h
 |scope c _=>intro R s K z Q a w U h A;exact hH c s K z Q a w U h A
 |refuse s=>intro R s K z Q a w U h A;cases h
theorem NA.none{P:Program}{E:Ih}{C:Ctx}:NA P E C (λ_ _ _ _=>.none):=λ_ _ _ _ _ _ _ _ _ h=>by grind
def Dl(U:EOK P E.toEnv)(hm:P.follows .mixedOrders=true)(A:C.m<=E.h.keep)(c:Code)(s:St)(K:Exit->St->Option R)(z:R)(Q:Exit->Act->World->Prop)(a:Act)(w:World)(F:AA C E.h.n s.den a w)(h:Mm E c s K=some z)
  (H:∀e s' B w',Kp (Ao (Bk c)) s s'->AA C E.h.n s'.den B w'->K e s'=some z->Q e B w'):c.wp P Q a w:=
 WA U hm A NA.none c s K z Q a w F h H
end Go.Ve


namespace Go.Ve
variable{P:Program}{s:St}
def divP:AI->AI->Bool
 |(_,k)::p,(_,l)::q=>!beq k l||divP p q
 |_,_=>false
theorem UG{x:V}:∀{p q:AI} (_:divP p q=true) (v:V),sub q (upd p v x)=sub q v/\AN p q=false
 |(i,k)::p,(j,l)::q,h0,v=>by
  have h:(!beq k l||divP p q)=true:=h0;by_cases A:k=l
  .subst A
   rw[beq_refl,Bool.not_true,Bool.false_or]at h;refine⟨?_,?_⟩
   .cases v with
    |nd s o sz n f=>
     show sub q (if j=i/\k=k then upd p (f i k) x else f j k)=sub q (f j k)
     by_cases B:j=i
     .subst B
      rw[if_pos ⟨rfl,rfl⟩];exact(UG h (f j k)).1
     grind
    |_=>rfl
   .show(i==j&&k==k&&AN p q)=false
    rw[(UG (x:=x) h v).2,Bool.and_false]
  .refine⟨?_,?_⟩
   .cases v with
    |nd s o sz n f=>
     show sub q (if j=i/\l=k then upd p (f i k) x else f j l)=sub q (f j l)
     grind
    |_=>rfl
   .show(i==j&&k==l&&AN p q)=false
    grind
 |[],_,h,_=>by cases h
 |_::_,[],h,_=>by cases h
def CU:List Cl->List (Nat×AI)
 |[]=>[]
 |.rf id p::l=>(id,p)::CU l
 |_::l=>CU l
def UF(a b:Nat×AI):Bool:=!beq a.1 b.1||divP a.2 b.2
def O8:List (Nat×AI)->Bool
 |[]=>true
 |a::l=>l.all (UF a)&&O8 l
def AbH(r:List Aa):Cl->Option Cl
 |.c t d x=>some (.c t d x)
 |.nil=>some .nil
 |.nilp=>some .nilp
 |.rf id p=>match Ac r id p with
  |.arr _ t d xs=>some (.c (.sl t) (d+1) xs)
  |_=>none
 |_=>none
def NP(r:List Aa):List Cl->Option (List Cl)
 |[]=>some []
 |y::l=>match AbH r y with
  |some z=>match NP r l with
   |some m=>some (z::m)
   |none=>none
  |none=>none
def Uj{id:Nat}{q:AI}:∀{l:List Cl},Cl.rf id q∈l->(id,q)∈CU l
 |[],h=>by grind
 |z::l,h=>by
  rcases mem_cons.1 h with h|h
  .subst h;exact List.mem_cons_self ..
  .have:=Uj h
   cases z<;>first|trivial|exact mCM _ this
def Hz{r:List Aa}{y:Cl}:∀{l B:List Cl},NP r l=some B->y∈l->∃z,AbH r y=some z
 |[],_,_,h=>by grind
 |z::l,B,hl,h=>by
  unfold NP at hl;split at hl
  case h_2=>grind
  split at hl
  case h_2=>grind
  rename_i F A;rcases mem_cons.1 h with h|h
  .grind
  .exact Hz A h
def AbD{m id:Nat}{p:AI}{n:Nat}{A σ:List V}:tkL (m+1) (V.rs id p 0 n::A) σ=(match sub p (σ.getD id .dead)with
   |.nd true true sz B f=>if 0=0/\n=B then .nd true true sz B f::tkL m (A.map λv=>AF σ.length [] (rrV id p σ.length v)) (σ.set id (upd p (σ.getD id .dead) .dead)++[.dead])else .dead::tkL m A σ
   |_=>.dead::tkL m A σ):=rfl
theorem tkL_v(r:List Aa):∀(l l':List Cl) (m:Nat) (σ:List V),l.length<=m->l.all Cl.plain=true->NP r l=some l'->O8 (CU l)=true->
  (∀id p,(id,p)∈CU l->sub p (σ.getD id .dead)=(Ac r id p).v/\id<σ.length)->tkL m (l.map (Cl.v r)) σ=l'.map Cl.v0:=by
 intro l
 induction l with
 |nil=>intro l' m σ _ _ h _ _;cases h;cases m<;>rfl
 |cons y l ih=>
  intro l' m σ hm hp h hd U;cases m with
  |zero=>simp at hm
  |succ m=>
   simp only[List.length_cons]at hm;rw[all_cons,bAE]at hp;unfold NP at h;split at h
   case h_2=>cases h
   rename_i z A;split at h
   case h_2=>cases h
   rename_i l1 H;cases h
   have plainly:∀v:V,y.v r=v->v=z.v0->CU (y::l)=CU l->(∀vs,tkL (m+1) (v::vs) σ=v::tkL m vs σ)->tkL (m+1) ((y::l).map (Cl.v r)) σ=(z::l1).map Cl.v0:=by
    intro v hv hvz Z htk;rw[map_cons,map_cons,hv,htk,<-hvz]
    congr 1
    exact ih l1 m σ (by omega) hp.2 H (by rw[Z]at hd;exact hd) λid p hm=>U id p (by rw[Z];exact hm)
   cases y with
   |c t d x=>
    cases A;cases t<;>first|exact plainly _ rfl rfl rfl (λ_=>rfl)|cases hp.1
   |nil=>cases A;exact plainly _ rfl rfl rfl λ_=>rfl
   |nilp=>cases A;exact plainly _ rfl rfl rfl λ_=>rfl
   |nilf=>cases A
   |nilm=>cases A
   |raw _ _=>cases A
   |rf id p=>
    unfold AbH at A;simp only at A;split at A
    case h_2=>cases A
    rename_i ro t d xs hn;cases A;have W:((CU l).all (UF (id,p))&&O8 (CU l))=true:=hd;rw[bAE]at W;obtain⟨hs,hid⟩:=U id p (List.mem_cons_self ..);rw[hn]at hs;have hs:sub p (σ.getD id .dead)=.nd true true t.w xs.length λi k=>(tyV t d (xs.getD i t.dflt)).getD k .dead:=hs
    rw[map_cons];show tkL (m+1) (V.rs id p 0 (Ac r id p).len::l.map (Cl.v r)) σ=_;rw[hn];show tkL (m+1) (V.rs id p 0 xs.length::l.map (Cl.v r)) σ=_
    have e:tkL (m+1) (V.rs id p 0 xs.length::l.map (Cl.v r)) σ=(V.nd true true t.w xs.length λi k=>(tyV t d (xs.getD i t.dflt)).getD k .dead)::
      tkL m ((l.map (Cl.v r)).map λv=>AF σ.length [] (rrV id p σ.length v)) (σ.set id (upd p (σ.getD id .dead) .dead)++[.dead]):=by
     rw[AbD,hs];exact if_pos ⟨rfl,rfl⟩
    rw[e,map_cons]
    congr 1
    -- the rest is as it was
    have Y:(l.map (Cl.v r)).map (λv=>AF σ.length [] (rrV id p σ.length v))=l.map (Cl.v r):=by
     rw[map_map];refine List.map_congr_left λy hy=>?_
     show AF σ.length [] (rrV id p σ.length (y.v r))=y.v r;cases y with
     |c t d x=>cases t<;>first|rfl|exact(congrArg (AF σ.length []) ((C6 id p σ.length).osl (d:=d))).trans ((A5 σ.length []).osl (d:=d))|exact(congrArg (AF σ.length []) ((C6 id p σ.length).clo (d:=d))).trans ((A5 σ.length []).clo (d:=d))
     |dead=>rfl
     |nil=>rfl
     |nilp=>rfl
     |nilf=>rfl
     |nilm=>rfl
     |raw _ _=>rfl
     |rf id' q=>
      have B:(id',q)∈CU l:=Uj hy;have F:=aET.1 W.1 _ B;have hlt:=(U id' q (mCM _ B)).2
      have hn1:¬ (id'=id/\AN p q=true):=by
       rintro ⟨h1,h2⟩
       unfold UF at F;simp only[h1,beq_refl,Bool.not_true,Bool.false_or]at F;rw[(UG (x:=.dead) F .dead).2]at h2;cases h2
      show AF σ.length [] (rrV id p σ.length (.rs id' q 0 (Ac r id' q).len))=_;simp only[rrV,if_neg hn1,AF];rw[if_neg (by rintro ⟨h,_⟩;omega)]
      rfl
     |rs id' q a b=>obtain⟨z,A⟩:=Hz H hy;cases A
     |rp id' q a b=>obtain⟨z,A⟩:=Hz H hy;cases A
     |rm id' q=>obtain⟨z,A⟩:=Hz H hy;cases A
    rw[Y];refine ih l1 m _ (by omega) hp.2 H W.2 λid' q B=>?_
    obtain⟨h1,h2⟩:=U id' q (mCM _ B);have F:=aET.1 W.1 _ B;refine⟨?_,by simp;omega⟩
    have hlt:id'<(σ.set id (upd p (σ.getD id .dead) .dead)).length:=by simpa using h2
    rw[Az hlt];by_cases hii:id=id'
    .subst hii
     rw[Ag hid,<-h1];unfold UF at F;simp only[beq_refl,Bool.not_true,Bool.false_or]at F;exact(UG F _).1
    .rw[Ad hii,h1]
   |dead=>cases A
   |rs=>cases A
   |rp=>cases A
   |rm=>cases A
def AbG(r:List Aa):List Cl->Option (List Cl)
 |[.rp id [] 0 0]=>match r.getD id .dead with
  |.obj false l=>match Hn l with
   |some ⟨t,x⟩=>bif l.any Cl.own then none else some [.c (.ptr t) 1 x]
   |none=>none
  |_=>none
 |[.rm id []]=>match r.getD id .dead with
  |.mp false kt A x=>some [.c (.mp kt A) 1 x]
  |_=>none
 |l=>NP r l
theorem AbF{l m:List Cl}(hm:AbG s.r l=some m)(h3:l.all Cl.plain=true)(hd:O8 (CU l)=true):tkL (l.map (Cl.v s.r)).length (l.map (Cl.v s.r)) s.den.σ=m.map Cl.v0:=by
 unfold AbG at hm;split at hm
 .rename_i id
  split at hm
  case h_2=>cases hm
  rename_i l Z;split at hm
  case h_2=>cases hm
  rename_i t x hf;cases hb:l.any Cl.own with
  |true=>rw[hb]at hm;cases hm
  |false=>
  rw[hb]at hm;cases hm;have e1:=DV _ _ hf
  have e2:(l.map Cl.v0).map frz=l.map Cl.v0:=by
   rw[map_map];refine List.map_congr_left λc hc=>Z6 ?_
   have:=List.any_eq_false.1 hb c hc;simpa using this
  have e3:tyV t 0 x=l.map Cl.v0:=e1.trans e2
  have B:s.den.σ.getD id .dead=A3 true (l.map Cl.v0):=by
   show(s.r.map Aa.v).getD id .dead=_;rw[Ai,Z];rfl
  show(match sub [] (s.den.σ.getD id .dead)with
   |.nd false true sz n f=>if 0=0/\0=0 then V.nd false true sz n f::[]else [.dead]
   |_=>[.dead])=[A3 (decide (0<1)) (tyV t 0 x)]
  rw[B,e3];rfl
 .rename_i id
  split at hm
  case h_2=>cases hm
  rename_i kt vt x Z;cases hm;have B:s.den.σ.getD id .dead=mpV true kt vt x:=by
   show(s.r.map Aa.v).getD id .dead=_;rw[Ai,Z];rfl
  show(match sub [] (s.den.σ.getD id .dead)with
   |.mp true l=>V.mp true l::[]
   |_=>[.dead])=[mpV (decide (0<1)) kt vt x]
  rw[B];rfl
 .have hlt:∀id p,(id,p)∈CU l->Ac s.r id p≠.dead:=by
   intro id p
   have key:∀(l Y:List Cl),NP s.r l=some Y->(id,p)∈CU l->Ac s.r id p≠.dead:=by
    intro l
    induction l with
    |nil=>intro Y _ h;cases h
    |cons y l ih=>
     intro Y W hm;unfold NP at W;split at W
     case h_2=>cases W
     rename_i z1 A;split at W
     case h_2=>cases W
     rename_i l2 U;cases y with
     |rf id' q=>
      rcases mem_cons.1 hm with h|h
      .cases h
       intro hx
       have A:(match Ac s.r id p with
        |.arr _ t d xs=>some (Cl.c (.sl t) (d+1) xs)
        |_=>none)=some z1:=A
       rw[hx]at A;cases A
      .exact ih l2 U h
     |_=>exact ih l2 U hm
   exact key _ _ hm
  refine tkL_v s.r l m (l.map (Cl.v s.r)).length s.den.σ (by simp) h3 hm hd λid p H=>?_
  have F:=hlt id p H;refine⟨AV F,?_⟩;show id<(s.r.map Aa.v).length;rw[length_map];rcases Nat.lt_or_ge id s.r.length with h|h
  .exact h
  .exfalso
   apply F;unfold Ac;rw[gDE,List.getElem?_eq_none h];exact Dt p
def retV1(Θ:Tab)(s:St):ResultVar->Option Sl
 |.tmp t=>some (s.t t)
 |.cell a t=>match WO s (Θ.look t) (s.ev (.tmp a))with
  |some (.ok y)=>some y
  |_=>none
def Zv(Θ:Tab)(s:St):List ResultVar->Option (List Sl)
 |[]=>some []
 |v::l=>match retV1 Θ s v with
  |some y=>match Zv Θ s l with
   |some m=>some (y::m)
   |none=>none
  |none=>none
def cellsOf:List Sl->Option (List (Bool×List Cl))
 |[]=>some []
 |y::l=>match y with
  |.one c=>match(Sl.one c).cells,cellsOf l with
   |some m,some n=>some ((false,m)::n)
   |_,_=>none
  |.agg c=>match(Sl.agg c).cells,cellsOf l with
   |some m,some n=>some ((true,m)::n)
   |_,_=>none
  |_=>none
def Lz(b:Bool)(p:Bool×Nat×Ty)(l:List Cl):Option p.2.2.T:=bif b|| !isP p then MS p.2.2 p.2.1 l else match l with
 |[.nilp]=>some p.2.2.dflt
 |_=>none
def Ub(b:Bool):(rs:List (Bool×Nat×Ty))->List (Bool×List Cl)->List Cl->Option (RT rs).T
 |[],[],[]=>some ()
 |[p],[q],l=>bif p.1==q.1&&(p.1||p.2.2.one)&&beq l.length q.2.length then Lz b p l else none
 |p::B::rs,q::A::qs,l=>bif p.1==q.1&&(p.1||p.2.2.one)&&ble q.2.length l.length then(match Lz b p (l.take q.2.length)with
  |some x=>match Ub b (B::rs) (A::qs) (l.drop q.2.length)with
   |some z=>some (x,z)
   |none=>none
  |none=>none)else none
 |_,_,_=>none
def AaN(b:Bool)(Θ:Tab)(A:List ResultVar)(rs:List (Bool×Nat×Ty))(s:St):Option (RT rs).T:=match Zv Θ s A with
 |some ys=>match cellsOf ys with
  |some ls=>match AbG s.r (ls.flatMap (·.2))with
   |some m=>bif O8 (CU (ls.flatMap (·.2)))then Ub b rs ls m else none
   |none=>none
  |none=>none
 |none=>none
def retK(Θ:Tab)(A:List ResultVar)(rs:List (Bool×Nat×Ty)):Exit->St->Option (RT rs).T
 |.normal,s=>AaN true Θ A rs s
 |.ret,s=>AaN true Θ A rs s
 |_,_=>none
def pS(b:Bool)(t:Ty)(x:t.T):Sl:=bif b then .agg (Ar t 0 x)else .one (.c t 0 x)
def Ads:(l:List (Bool×Ty))->(PT l).T->List Sl
 |[],_=>[]
 |[p],x=>[pS p.1 p.2 x]
 |p::q::l,x=>pS p.1 p.2 x.1::Ads (q::l) x.2
def JL(l:List (Bool×Ty))(x:(PT l).T):St:=⟨λi=>(Ads l x).getD i (.one .dead),[]⟩
noncomputable def tfun(E:Ih)(body:Code)(A:List ResultVar)(S:Sig)(x:(PT S.ps).T):Option (RT S.rs).T:=Mm E body (JL S.ps x) (retK E.Θ A S.rs)
theorem Pd{s:St}:∀(ys:List Sl) (ls:List (Bool×List Cl)),cellsOf ys=some ls->(ys.map (Sl.v s.r)).all Bs=true/\(ys.map (Sl.v s.r)).flatMap Go.Ve.cellsV=(ls.flatMap (·.2)).map (Cl.v s.r)/\(ls.flatMap (·.2)).all Cl.plain=true/\ls.length=ys.length
 |[],ls,h=>by cases h;exact⟨rfl,rfl,rfl,rfl⟩
 |y::ys,ls,h=>by
  have go:∀(b:Bool) (m:List Cl) (n:List (Bool×List Cl)),y.cells=some m->cellsOf ys=some n->ls=(b,m)::n->((y::ys).map (Sl.v s.r)).all Bs=true/\((y::ys).map (Sl.v s.r)).flatMap Go.Ve.cellsV=(ls.flatMap (·.2)).map (Cl.v s.r)/\(ls.flatMap (·.2)).all Cl.plain=true/\ls.length=(y::ys).length:=by
   intro b m n hm A e;subst e;obtain⟨B,U,h3⟩:=CL (r:=s.r) hm;obtain⟨g1,g2,H,F⟩:=Pd ys n A;refine⟨by rw[map_cons,all_cons,B,g1];rfl,?_,?_,by simp[F]⟩
   .grind
   .rw[List.flatMap_cons,List.all_append,h3,H];rfl
  unfold cellsOf at h;split at h
  .split at h
   .rename_i m n hm A
    cases h;exact go _ _ _ hm A rfl
   .cases h
  .split at h
   .rename_i m n hm A
    cases h;exact go _ _ _ hm A rfl
   .cases h
  .cases h
theorem DY{s:St}:∀(ys:List Sl) (ls:List (Bool×List Cl)),cellsOf ys=some ls->∀k,k<ls.length->((ls.getD k (false,[])).1=true/\(∃l,(ys.getD k (.one .dead)).v s.r=Ah l/\l.length=(ls.getD k (false,[])).2.length))\/((ls.getD k (false,[])).1=false/\(∀t n f,(ys.getD k (.one .dead)).v s.r≠.many t n f)/\(ls.getD k (false,[])).2.length=1)
 |[],ls,h,k,hk=>by cases h;simp at hk
 |y::ys,ls,h,k,hk=>by
  unfold cellsOf at h;split at h
  .rename_i c
   split at h
   .rename_i m n hm B
    cases h;cases k with
    |zero=>
     right;refine⟨rfl,?_,?_⟩
     .have hm:(bif c.plain then some [c]else none)=some m:=hm
      cases A:c.plain with
      |false=>rw[A]at hm;cases hm
      |true=>
       show ∀t n f,c.v s.r≠.many t n f;cases c with
       |c t d x=>cases t<;>first|(cases A;done)|(intro _ _ _ h;cases h)
       |_=>intro _ _ _ h;cases h
     .have hm:(bif c.plain then some [c]else none)=some m:=hm
      cases A:c.plain with
      |false=>rw[A]at hm;cases hm
      |true=>rw[A]at hm;cases hm;rfl
    |succ k=>exact DY ys n B k (by simpa using hk)
   .cases h
  .rename_i c
   split at h
   .rename_i m n hm B
    cases h;cases k with
    |zero=>
     left;refine⟨rfl,c.map (Cl.v s.r),rfl,?_⟩;have hm:(bif c.all Cl.plain then some c else none)=some m:=hm;cases A:c.all Cl.plain with
     |false=>rw[A]at hm;cases hm
     |true=>rw[A]at hm;cases hm;simp
    |succ k=>exact DY ys n B k (by simpa using hk)
   .cases h
  .cases h
def ZI(b:Bool):∀(rs:List (Bool×Nat×Ty)) (ls:List (Bool×List Cl)) (l:List Cl) (z:(RT rs).T) (B:List V),Ub b rs ls l=some z->B.length=ls.length->
  (∀k,k<ls.length->((ls.getD k (false,[])).1=true/\(∃m,B.getD k .dead=Ah m/\m.length=(ls.getD k (false,[])).2.length))\/((ls.getD k (false,[])).1=false/\(∀t n f,B.getD k .dead≠.many t n f)/\(ls.getD k (false,[])).2.length=1))->
  CO (Bi B (l.map Cl.v0)) (Vm b rs z):=by
 -- one result
 have one:∀(p:Bool×Nat×Ty) (q:Bool×List Cl) (l:List Cl) (x:p.2.2.T) (v:V) (Y:List V) (rest:List V),p.1=q.1->(p.1=true\/p.2.2.one=true)->l.length=q.2.length->Lz b p l=some x->
   ((q.1=true/\(∃m,v=Ah m/\m.length=q.2.length))\/(q.1=false/\(∀t n f,v≠.many t n f)/\q.2.length=1))->∃v',Bi (v::Y) (l.map Cl.v0++rest)=v'::Bi Y rest/\Sub v' (YT b p x):=by
  intro p q l x v Y rest h1 h2 A H W;unfold Lz at H;unfold YT;cases U:b|| !isP p with
  |false=>
   rw[U]at H;simp only[cond_false]at H;split at H
   case h_2=>cases H
   have hp1:p.1=false:=by
    rw[Bool.or_eq_false_iff,Bool.not_eq_false']at U;have:=U.2;unfold isP at this;rw[bAE,Bool.not_eq_true']at this;exact this.1
   rcases W with⟨Z,_⟩|⟨_,hv,_⟩
   .rw[<-h1,hp1]at Z;cases Z
   .refine⟨.c (.pointer none),?_,Sub.refl _⟩
    show Bi (v::Y) (.c (.pointer none)::rest)=_;cases v with
    |many t n f=>exact absurd rfl (hv _ _ _)
    |_=>rfl
  |true=>
  rw[U]at H;simp only[cond_true]at H⊢;obtain⟨g1,g2⟩:=J4 H [];rw[g2]at g1;rcases W with⟨Z,m,rfl,hm⟩|⟨Z,hv,hq1⟩
  .refine⟨Ah (l.map Cl.v0),?_,?_⟩
   .show Ah ((l.map Cl.v0++rest).take m.length)::Bi Y ((l.map Cl.v0++rest).drop m.length)=_
    have e:(l.map Cl.v0).length=m.length:=by rw[length_map,A,hm]
    rw[<-e,List.take_left,List.drop_left]
   .rw[h1,Z];exact g1.mk
  .have hp:p.1=false:=by rw[h1,Z]
   have ho:p.2.2.one=true:=by rcases h2 with h|h;rw[hp]at h;cases h;exact h
   rw[Bm ho]at g1
   match l,A with
   |[y],_=>
    refine⟨y.v0,?_,?_⟩
    .show Bi (v::Y) (y.v0::rest)=_
     cases v with
     |many t n f=>exact absurd rfl (hv _ _ _)
     |_=>rfl
    .rw[hp];exact g1.1
   |[],A=>rw[hq1]at A;cases A
   |_::_::_,A=>rw[hq1]at A;simp at A
 intro rs
 induction rs with
 |nil=>
  intro ls l z B h A W;cases ls with
  |nil=>cases l with
   |nil=>cases B with
    |nil=>trivial
    |cons=>simp at A
   |cons=>cases h
  |cons=>cases h
 |cons p rs ih=>
  intro ls l z B h A W;cases rs with
  |nil=>
   cases ls with
   |nil=>cases h
   |cons q ls=>cases ls with
    |cons=>cases h
    |nil=>
     have h:(bif p.1==q.1&&(p.1||p.2.2.one)&&beq l.length q.2.length then Lz b p l else none)=some z:=h;obtain⟨F,h⟩:=A1 h;simp only[bAE,beq_iff_eq,Bool.or_eq_true]at F;cases B with
     |nil=>simp at A
     |cons v B=>cases B with
      |cons=>simp at A
      |nil=>
       obtain⟨v',e,hs⟩:=one p q l z v [] [] F.1.1 F.1.2 (bqE F.2) h (W 0 (by simp))
       rw[List.append_nil]at e;rw[e];exact⟨hs,trivial⟩
  |cons p' rs=>
   cases ls with
   |nil=>cases h
   |cons q ls=>cases ls with
    |nil=>cases h
    |cons q' ls=>
     have h:(bif p.1==q.1&&(p.1||p.2.2.one)&&ble q.2.length l.length then(match Lz b p (l.take q.2.length)with
      |some x=>match Ub b (p'::rs) (q'::ls) (l.drop q.2.length)with
       |some z=>some (x,z)
       |none=>none
      |none=>none)else none:Option (RT (p::p'::rs)).T)=some z:=h
     cases F:(p.1==q.1&&(p.1||p.2.2.one)&&ble q.2.length l.length)with
     |false=>rw[F]at h;cases h
     |true=>
      rw[F]at h;simp only[bAE,beq_iff_eq,Bool.or_eq_true]at F;simp only[cond_true]at h;split at h
      case h_2=>cases h
      rename_i x H;split at h
      case h_2=>cases h
      rename_i z2 hz2;cases h;cases B with
      |nil=>simp at A
      |cons v B=>
       have hlen:(l.take q.2.length).length=q.2.length:=by
        have:=blE F.2;rw[List.length_take];omega
       obtain⟨v',e,hs⟩:=one p q (l.take q.2.length) x v B ((l.drop q.2.length).map Cl.v0) F.1.1 F.1.2 hlen H (W 0 (by simp))
       rw[<-List.map_append,List.take_append_drop]at e;rw[e];refine⟨hs,ih (q'::ls) (l.drop q.2.length) z2 B hz2 (by simpa using A) λk hk'=>?_⟩
       have:=W (k+1) (by simpa using hk')
       simpa using this
theorem Xc{P:Program}{Θ:Tab}(H:Θ.OK P){s:St}{K:List V->Prop}:∀(F:List ResultVar) (ys:List Sl) (A:List V),Zv Θ s F=some ys->K (A++ys.map (Sl.v s.r))->Wf P s.den F A K
 |[],ys,A,h,hK=>by cases h;show K A;grind
 |v::F,ys,A,h,hK=>by
  unfold Zv at h;split at h
  case h_2=>cases h
  rename_i y U;split at h
  case h_2=>cases h
  rename_i m hm;cases h;have B:Wf P s.den F (A++[y.v s.r]) K:=Xc H F m _ hm (by grind)
  cases v with
  |tmp t=>
   cases U;exact B
  |cell a t=>
   unfold retV1 at U;simp at U;split at U
   .rename_i Z Y
    cases U;exact Ls (QI H Y trivial) λr0 W=>by rw[W];exact B
   grind
theorem QU{Θ:Tab}(U:Θ.OK P){H:List ResultVar}{rs:List (Bool×Nat×Ty)}{b:Bool}{z:(RT rs).T}(h:AaN b Θ H rs s=some z):Wf P s.den H [] (YN s.den.σ (MH b rs z)):=by
 unfold AaN at h;split at h
 case h_2=>cases h
 rename_i ys W;split at h
 case h_2=>cases h
 rename_i ls F;split at h
 case h_2=>cases h
 rename_i m hm;obtain⟨hd,h⟩:=A1 h;refine Xc U H ys [] W ?_;rw[List.nil_append];obtain⟨h1,h2,h3,h4⟩:=Pd (s:=s) ys ls F;refine⟨h1,?_⟩;rw[h2];have Y:=AbF hm h3 hd
 .rw[Y]
  have B:=ZI b rs ls m z (ys.map (Sl.v s.r)) h (by rw[length_map,h4]) λk hk=>?_
  .-- Ly
   have Z:∀{a b:List V},CO a b->Sub (OA a) (OA b):=by
    intro a b A
    match a,b,A with
    |[],[],_=>exact Sub.refl _
    |[x],[y],A=>exact A.1
    |x::x'::a,y::y'::b,A=>
     show Sub (Dj _) (Dj _);unfold Dj;rw[A.len];exact⟨_,rfl,λk _=>A.getD k⟩
    |[],_::_,A=>exact A.elim
    |_::_,[],A=>exact A.elim
    |[_],_::_::_,A=>exact A.2.elim
    |_::_::_,[_],A=>exact A.2.elim
   exact Z B
  .have:=DY (s:=s) ys ls F k hk
   simp_all
def pS_v(b:Bool)(t:Ty)(x:t.T):(pS b t x).v []=vOf b t 0 x:=by
 cases b with
 |true=>show Ah ((Ar t 0 x).map (Cl.v []))=_;rw[Cl.v_c];rfl
 |false=>rfl
def YC:∀(l:List (Bool×Ty)) (x:(PT l).T),(Ads l x).map (Sl.v [])=CN l x
 |[],x=>rfl
 |[p],x=>congrArg (λv=>[v]) (pS_v p.1 p.2 x)
 |p::q::l,x=>by
  show(pS p.1 p.2 x.1).v []::(Ads (q::l) x.2).map (Sl.v [])=vOf p.1 p.2 0 x.1::CN (q::l) x.2;rw[YC (q::l) x.2,pS_v]
def KK:∀(l:List (Bool×Ty)) (x:(PT l).T),(CN l x).length=l.length
 |[],_=>rfl
 |[_],_=>rfl
 |_::q::l,x=>by show(CN (q::l) x.2).length+1=_;rw[KK];rfl
theorem AaC{E:Ih}{f:FuncId}{fn:Func}{body:Code}{S:Sig}(H:EOK P E.toEnv)(hm:P.follows .mixedOrders=true)(Z:P.funcs[f]? =some fn)(hb:fn.body=some body)(hn:max S.ps.length fn.ntmps=E.h.n):
  FT P f S (tfun E body fn.results.toList S):=by
 intro x y B;refine FC_of Z hb (by rw[KK];omega) λ_ C a w Q hCm W F=>?_
 have e:(JL S.ps x).den=⟨λi=>(CN S.ps x).getD i .dead,[]⟩:=by
  show Ms.mk (λi=>((Ads S.ps x).getD i (.one .dead)).v []) []=_
  congr 1
  funext i
  rw[<-YC S.ps x,Aw (a:=.one .dead) rfl]
 rw[<-e]at W;rw[<-Ir]at F;refine Dl H hm (by omega) body (JL S.ps x) _ y Q a w W B λe s' Y w' _ A U=>?_
 cases e with
 |normal=>exact F .normal s'.den Y w' (QU H.Θ U) A
 |ret=>exact F .ret s'.den Y w' (QU H.Θ U) A
 |exit id=>trivial
 |goto l=>trivial
 |panic ch=>trivial
 |outgrown=>trivial
end Go.Ve


namespace Go.Ve
variable{P:Program}
noncomputable def tfn(E:Ih)(fn:Func)(S:Sig)(x:(PT S.ps).T):Option (RT S.rs).T:=match fn.body with
 |some b=>tfun E b fn.results.toList S x
 |none=>none
theorem AaD{E:Ih}{f:FuncId}{fn:Func}{S:Sig}(B:Tab.OK P E.Θ)(F:Id P E.Γ)(hW:∀e∈E.W,e.OK P)(hN:∀e∈E.N,e.OK P)(hm:P.follows .mixedOrders=true)(hf:P.funcs[f]? =some fn)(Y:max S.ps.length fn.ntmps=E.h.n){g:(PT S.ps).T->Option (RT S.rs).T}(Z:tfn E fn S=g)(hU:∀e∈E.U,e.OK P:=by exact IK)(hM:∀e∈E.M,e.OK P:=by exact Kr):FT P f S g:=by
 subst Z;intro x y A;unfold tfn at A;cases H:fn.body with
 |none=>grind
 |some b=>
  rw[H]at A;exact AaC ⟨B,F,hW,hN,hU,hM⟩ hm hf H Y x y A
def Da:∀e∈([]:List EnN),e.OK P:=by simp
theorem An:Id P []:=λ_ h=>by grind
def Jw{e:En}{l:List En}(H:AE P e.f=true)(F:FT P e.f e.S e.g)(B:Id P l):Id P (e::l):=by
 intro x A;rcases mem_cons.1 A with rfl|A
 .trivial
 .exact B x A
end Go.Ve

