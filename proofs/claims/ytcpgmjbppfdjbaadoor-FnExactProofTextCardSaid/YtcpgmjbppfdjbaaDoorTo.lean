/- The typed machine over code: what a body computes, as a function; that it does. -/
import Derived.Test.YtcpgmjbppfdjbaaDoorTl
namespace Go.Ve
variable{a b:Code}{C:Ctx}{cs:List Dy}{L Rh:List Nat}{d i:Nat}{P:Program}{s:St}{u:Ty}{R X:Type}
inductive LO(X R:Type) where
 |next (x:X)
 |brk (id:Nat) (x:X)
 |ret (r:R)
inductive Ca{X R:Type}(f:X->Option (LO X R)):X->LO X R->Nat->Prop where
 |brk {x y:X} {id:Nat}:f x=some (.brk id y)->Ca f x (.brk id y) 0
 |ret {x:X} {r:R}:f x=some (.ret r)->Ca f x (.ret r) 0
 |step {x y:X} {o:LO X R} {n:Nat}:f x=some (.next y)->Ca f y o n->Ca f x o (n+1)
noncomputable def A3{X R:Type}(f:X->Option (LO X R))(x:X):Option (LO X R):=@dite _ (∃o n,Ca f x o n) (Classical.propDecidable _) (λh=>some (Classical.choose h)) λ_=>none
theorem Ca.det{f:X->Option (LO X R)}: ∀ {x:X} {o o':LO X R} {n n':Nat},Ca f x o n->Ca f x o' n'->o=o'/\n=n':=by
 intro x o o' n n' h
 induction h generalizing o' n' with
 |brk h=>intro h';cases h' with
  |brk h'=>grind
  |ret h'=>grind
  |step h' _=>grind
 |ret h=>intro h';cases h' with
  |brk h'=>grind
  |ret h'=>grind
  |step h' _=>grind
 |step h _ ih=>intro h';cases h' with
  |brk h'=>grind
  |ret h'=>grind
  |step h' h2=>grind
theorem Cc{f:X->Option (LO X R)}{x:X}{o:LO X R}:A3 f x=some o↔ ∃n,Ca f x o n:=by
 unfold A3;split
 ·rename_i h
  obtain⟨n,hn⟩:=Classical.choose_spec h;constructor
  ·grind
  ·rintro ⟨n',h'⟩;rw [(hn.det h').1]
 grind
theorem Dz(f:X->Option (LO X R))(x:X):A3 f x=(f x).bind λo=>match o with
  | .next y=>A3 f y
  | .brk id y=>some (.brk id y)
  | .ret r=>some (.ret r):=by
 cases hf:f x with
 |none=>
  show A3 f x=none;cases h:A3 f x with
  |none=>rfl
  |some o=>
   obtain⟨n,hn⟩:=Cc.1 h;cases hn with
   |brk h'=>rw [hf]at h';cases h'
   |ret h'=>rw [hf]at h';cases h'
   |step h' _=>rw [hf]at h';cases h'
 |some o=>
  cases o with
  |brk id y=>exact Cc.2 ⟨0,.brk hf⟩
  |ret r=>exact Cc.2 ⟨0,.ret hf⟩
  |next y=>
   show A3 f x=A3 f y;cases h:A3 f y with
   |some o=>obtain⟨n,hn⟩:=Cc.1 h;exact Cc.2 ⟨n+1,.step hf hn⟩
   |none=>
    cases h2:A3 f x with
    |none=>rfl
    |some o=>
     obtain⟨n,hn⟩:=Cc.1 h2;cases hn with
     |brk h'=>rw [hf]at h';cases h'
     |ret h'=>rw [hf]at h';cases h'
     |step h' h3=>rw [hf]at h';cases h';rw [Cc.2 ⟨_,h3⟩]at h;cases h
def Bb:List Ty->Ty
 | []=>.unit
 | [t]=>t
 |t::u::l=>.pair t (Bb (u::l))
def WN(t:Ty)(y:Dy):Option t.T:=if h:y.t=t then some (h▸y.x)else none
def toX:(tys:List Ty)->List Dy->Option (Bb tys).T
 | [],[]=>some ()
 | [t],[y]=>WN t y
 |t::u::l,y::ys=>match WN t y with
  |some x=>match toX (u::l) ys with
   |some z=>some (x,z)
   |none=>none
  |none=>none
 |_,_=>none
def ofX:(tys:List Ty)->(Bb tys).T->List Dy
 | [],_=>[]
 | [t],x=>[⟨t,x⟩]
 |t::u::l,x=>⟨t,x.1⟩::ofX (u::l) x.2
theorem WM{t:Ty}{y:Dy}{x:t.T}(h:WN t y=some x):(⟨t,x⟩:Dy)=y:=by
 unfold WN at h;split at h
 ·rename_i ht;subst ht;cases h;rfl
 grind
theorem Qu: ∀ (tys:List Ty) (cs:List Dy) (x:(Bb tys).T),toX tys cs=some x->ofX tys x=cs
 | [],[],x,h=>rfl
 | [t],[y],x,h=>by show [⟨t,x⟩]= [y];rw [WM h]
 |t::u::l,y::ys,x,h=>by
  have h:(match WN t y with
   |some x=>match toX (u::l) ys with
    |some z=>some (x,z)
    |none=>none
   |none=>none:Option (Bb (t::u::l)).T)=some x:=h
  split at h
  case h_2=>grind
  rename_i x1 h1;split at h
  case h_2=>grind
  rename_i z h2;cases h;show⟨t,x1⟩::ofX (u::l) z=_;rw [WM h1,Qu (u::l) ys z h2]
 | [],_::_,_,h=>by cases h
 | [_],[],_,h=>by cases h
 | [_],_::_::_,_,h=>by cases h
 |_::_::_,[],_,h=>by cases h
structure Cb extends Env where
 lp:List (Nat×List Nat×List Nat)
 dn:List (Nat×Nat)
variable{E:Cb}
def Bm:Code->Nat
 | .region id _ _=>id
 | .seq a b=>match a with
  | .skip=>Bm b
  | .label _=>Bm b
  |a=>Bm a
 | .block _ b=>Bm b
 | .loop b=>Bm b
 | .scope b=>Bm b
 |_=>0
def AJ:Code->List Oper
 | .region _ ops _=>ops.toList
 | .seq a b=>AJ a++AJ b
 | .cond _ a b=>AJ a++AJ b
 | .block _ b=>AJ b
 | .loop b=>AJ b
 | .scope b=>AJ b
 |_=>[]
def NM:Code->List Nat
 | .exit id=>[id]
 | .seq a b=>NM a++NM b
 | .cond _ a b=>NM a++NM b
 | .block id b=>(NM b).filter λi=>!Nat.beq i id
 | .loop b=>NM b
 |_=>[]
def lookN{α:Type}(d:α):List (Nat×α)->Nat->α
 | [],_=>d
 |(i,x)::l,k=>bif Nat.beq i k then x else lookN d l k
def clId:Cl->List Nat
 | .rf id _=>[id]
 | .rp id _ _ _=>[id]
 | .rs id _ _ _=>[id]
 |_=>[]
def slId:Sl->List Nat
 | .one c=>clId c
 |_=>[]
def condN(s:St)(c:Nat):Bool:=bif Nat.ble 2000000 c then(match slId (s.t (c-2000000))with
 | []=>true
 |_=>false)else bif Nat.ble 1000000 c then(slId (s.t ((c-1000000)/1000))).any λi=>Nat.beq i ((c-1000000) % 1000)else true
def Q9(s:St):List (Nat×List Nat×List Nat)->Nat->List Nat×List Nat
 | [],_=>([],[])
 |(i,L,R)::l,k=>bif Nat.beq i k then(bif R.all (condN s)then(L,R.filter λc=>!Nat.ble 1000000 c)else Q9 s l k)else Q9 s l k
def Wn(o:Oper):Bool:=match o.op with
 | .store _ _ _=>true
 |_=>false
def Aab(o:Oper):Bool:=match o.op with
 | .build _ _=>true
 | .buildSlice _ _ _=>true
 |_=>Wn o
def Wo(E:Env)(o:Oper):Bool:=Wn o||match Wa E o with
 |some (.app _ _ _ _)=>true
 |some (.cw _ _ _)=>true
 |_=>false
def UU:List Oper->Nat
 | []=>0
 |o::l=>match o.op with
  | .assign _=>UU l+1
  |_=>0
def isNew(ops:Array Oper)(y:Nat):Bool:=ops.toList.any λo=>match o.op,o.dst with
 | .alloc _,some d=>Nat.beq d y
 |_,_=>false
def isMade(ops:Array Oper)(y:Nat):Bool:=ops.toList.any λo=>match o.dst with
 |some d=>Nat.beq d y&&(match o.op with
  | .buildSlice _ _ _=>true
  | .makeSlice _ _ _=>true
  |op=>(WU op).isSome)
 |none=>false
def isLate(E:Env)(ops:Array Oper)(o:Oper):Bool:=match o.op with
 | .store _ (.tmp y) _=>!isNew ops y
 | .store _ _ _=>true
 |_=>match WU o.op with
  |some (_,.tmp y,_)=>!isMade ops y
  |some _=>true
  |none=>Wo E o
def headD(E:Env)(ops:Array Oper):Nat:=bif ops.toList.any (Wo E)then ops.toList.findIdx (λo=>Aab o||Wo E o)else
 bif HP ops (ops.size-UU ops.toList.reverse)then ops.size-UU ops.toList.reverse else ops.size
def headN(E:Cb)(id:Nat)(ops:Array Oper):Nat:=lookN (bif HP ops (headD E.toEnv ops)then headD E.toEnv ops else ops.toList.findIdx (isLate E.toEnv ops)) E.dn id
def brkK{R:Type}(K:Exit->St->Option R):List Nat->Nat->St->Option R
 | [],_,_=>none
 |i::l,id,s=>nif id i (K (.exit i) s) (brkK K l id s)
@[reducible] def HO {X R:Type} (o:Option R):Option (LO X R):=o.map .ret
@[reducible] def LO.fin {X R:Type} (f:Nat->X->Option R):LO X R->Option R
 | .brk id x=>f id x
 | .ret r=>some r
 | .next _=>none
def Uh{R:Type}(L Rh:List Nat)(s:St)(keep:Nat)(tys:List Ty)(K:Exit->St->Option R)(e:Exit)(s':St):Option (LO (Bb tys).T R):=match e with
 | .normal=>match X9 L Rh s s' keep with
  |some cs=>match toX tys cs with
   |some x=>some (.next x)
   |none=>none
  |none=>none
 | .exit id=>match X9 L Rh s s' keep with
  |some cs=>match toX tys cs with
   |some x=>some (.brk id x)
   |none=>none
  |none=>none
 | .ret=>HO (K .ret s')
 |_=>none
def Yi{R:Type}(b:Code)(L Rh:List Nat)(s:St)(tys:List Ty)(K:Exit->St->Option R):LO (Bb tys).T R->Option R:=
 LO.fin λid x=>brkK K (NM b).eraseDups id (A6 false (AJ b) L Rh s (ofX tys x))
def Jx(b:List Oper)(L Rh:List Nat)(s:St):Bool:=L.all (λd=>!(Ai b d&&(s.t d).stay))&&Rh.all λi=>!(s.r.getD i .dead).isRo
def LS:List Nat->St->St
 | [],s=>s
 |id::l,s=>match s.r.getD id .dead with
  | .arr false (.sl u) d xs=>bif Nat.beq u.dep 0 then LS l ⟨s.t,s.r.set id (.arr false (.osl u) d (Nt xs))⟩else LS l s
  |_=>LS l s
def ozOf:List (Nat×Nat)->Nat->List Nat
 | [],_=>[]
 |(a,b)::l,k=>bif Nat.beq a (k+1000000)then b::ozOf l k else ozOf l k
theorem Ju: ∀ (u:Ty) (d:Nat) (x:u.T),u.dep=0->∀c∈Am u d x,∀ro,c.node ro= .dead
 | .int _,_,_,_,c,h,_=>by rw [List.mem_singleton.1 h];rfl
 | .bool,_,_,_,c,h,_=>by rw [List.mem_singleton.1 h];rfl
 | .str,_,_,_,c,h,_=>by rw [List.mem_singleton.1 h];rfl
 | .unit,_,_,_,c,h,_=>by cases h
 | .pair a b,d,x,hd,c,h,ro=>by
  simp [Ty.dep]at hd;rcases List.mem_append.1 h with h|h
  ·exact Ju a d x.1 (by omega) c h ro
  ·exact Ju b d x.2 (by omega) c h ro
 | .sl _,_,_,h,_,_,_=>by trivial
 | .ptr _,_,_,h,_,_,_=>by trivial
 | .clo _ _,_,_,h,_,_,_=>by trivial
 | .osl _,_,_,h,_,_,_=>by trivial
theorem PV{α:Type}(xs:List (List α))(i:Nat):(Nt xs).getD i (some [])=some (xs.getD i []):=by
 unfold Nt;simp
theorem ZU{xs:List (List u.T)}:(Aa.arr false (.osl u) d (Nt xs)).v=(Aa.arr false (.sl u) d xs).v:=by
 show arr true 1 (tyV (.osl u) d) (some []) (Nt xs)=arr true 1 (tyV (.sl u) d) [] xs;unfold arr;have hl:(Nt xs).length=xs.length:=by simp [Nt]
 congr 1
 funext i k
 rw [PV];rfl
theorem V2{xs:List (List u.T)}(hu:u.dep=0): ∀q:AR,((Aa.arr false (.osl u) d (Nt xs)).at' q).len=((Aa.arr false (.sl u) d xs).at' q).len
 | []=>by show(Nt xs).length=xs.length;simp [Nt]
 |(i,0)::q=>by
  show(((Cl.c (.osl u) d ((Nt xs).getD i (some []))).node false).at' q).len=(((Cl.c (.sl u) d (xs.getD i [])).node false).at' q).len;rw [PV];cases d with
  |zero=>rfl
  |succ d=>
   cases q with
   |nil=>rfl
   |cons a q=>
    obtain⟨i2,k2⟩:=a;show(((([]:List Cl).getD k2 .dead).node false).at' q).len=((((Am u d ((xs.getD i []).getD i2 u.dflt)).getD k2 .dead).node false).at' q).len
    have e:((Am u d ((xs.getD i []).getD i2 u.dflt)).getD k2 .dead).node false= .dead:=by
     by_cases hk:k2<(Am u d ((xs.getD i []).getD i2 u.dflt)).length
     ·rw [gDE,gEE hk]
      exact Ju u d _ hu _ (List.getElem_mem hk) _
     ·rw [gDE,List.getElem?_eq_none (by omega)];rfl
    rw [e];rfl
 |(i,k+1)::q=>by
  rfl
theorem Cl.v_lens{r r':List Aa}(h: ∀id q,(Ab r' id q).len=(Ab r id q).len)(y:Cl):y.v r'=y.v r:=by
 cases y with
 |rf id p=>show V.rs id p 0 _=V.rs id p 0 _;grind
 |_=>rfl
theorem Sl.v_lens{r r':List Aa}(h: ∀id q,(Ab r' id q).len=(Ab r id q).len)(y:Sl):y.v r'=y.v r:=by
 have e:=funext λc=>Cl.v_lens h c
 cases y with
 |one c=>exact Cl.v_lens h c
 |new l=>rfl
 |agg l=>show Ac _=Ac _;grind
 |tup l=>show C8 _=C8 _;grind
 |pk t l=>show pkL t _=pkL t _;grind
theorem Hg: ∀ (l:List Nat) (s:St),(LS l s).den=s.den/\∀g,Kp g s (LS l s)
 | [],s=>⟨rfl,λg=>Kp.refl _ _⟩
 |id::l,s=>by
  unfold LS;split
  ·rename_i u d xs hr
   cases hb:Nat.beq u.dep 0 with
   |false=>exact Hg l s
   |true=>
    have hu:=bqE hb;obtain⟨h1,h2⟩:=Hg l ⟨s.t,s.r.set id (.arr false (.osl u) d (Nt xs))⟩;have hid:id<s.r.length:=by
     grind
    have hn: ∀id' q,(Ab (s.r.set id (.arr false (.osl u) d (Nt xs))) id' q).len=(Ab s.r id' q).len:=by
     intro id' q;by_cases he:id'=id
     ·subst he
      unfold Ab;have e:(s.r.set id' (.arr false (.osl u) d (Nt xs))).getD id' .dead= .arr false (.osl u) d (Nt xs):=by simp [hid]
      rw [e,hr];exact V2 hu q
     ·rw [Bg he]
    have hσ:(s.r.set id (.arr false (.osl u) d (Nt xs))).map Aa.v=s.r.map Aa.v:=by
     rw [List.map_set,ZU,<-hr];apply List.ext_getElem?
     grind
    refine⟨?_,λg=>?_⟩
    ·show(LS l _).den=_
     rw [h1];unfold St.den;simp only [hσ]
     congr 1
     funext i
     exact Sl.v_lens hn _
    ·refine Kp.trans (s1:=⟨s.t,s.r.set id (.arr false (.osl u) d (Nt xs))⟩) (g1:=g) (g2:=g) ⟨λi _ _=>rfl,λid' _ hro=>?_,by simp⟩ (h2 g) (λ_ h=>h) λ_ h=>h
     have hne:id≠id':=by
      rintro rfl
      rw [hr]at hro;cases hro
     simp only [gDE,List.getElem?_set_ne hne]
  ·exact Hg l s
noncomputable def BP(H:Code->{R:Type}->St->(Exit->St->Option R)->Option R)(E:Cb):Code->{R:Type}->St->(Exit->St->Option R)->Option R
 | .skip,_,s,K=>K .normal s
 | .region _ ops false,_,s,K=>tops E.toEnv ops (W9 ops.size ops.toList) s (K .normal)
 | .region id ops true,_,s,K=>Zp E.toEnv (headN E id ops) ops s (K .normal)
 | .seq a b,_,s,K=>BP H E a s λe s'=>match e with
  | .normal=>BP H E b s' K
  | .exit id=>K (.exit id) s'
  | .ret=>K .ret s'
  | .goto l=>K (.goto l) s'
  |_=>none
 | .cond c x y,_,s,K=>match s.ev c with
  |some (.one (.c .bool _ b))=>N3 b (BP H E x s K) (BP H E y s K)
  |_=>none
 | .block id b,_,s,K=>BP H E b s λe s'=>match e with
  | .exit i=>bif Nat.beq i id then K .normal s' else K (.exit i) s'
  | .normal=>K .normal s'
  | .ret=>K .ret s'
  | .goto l=>K (.goto l) s'
  |_=>none
 | .loop b,R,s0,K=>match LS (ozOf E.dn (Bm b)) s0 with
  |s=>match Q9 s E.lp (Bm b)with
  |(L,Rh)=>bif Jx (AJ b) L Rh s then(match X9 L Rh s s E.h.keep with
   |some cs=>match toX (cs.map (·.t)) cs with
    |some x=>H1 (A3 (λx=>BP H E b (A6 true (AJ b) L Rh s (ofX (cs.map (·.t)) x)) (Uh L Rh s E.h.keep (cs.map (·.t)) K)) x) (Yi b L Rh s (cs.map (·.t)) K)
    |none=>none
   |none=>none)else none
 | .exit id,_,s,K=>K (.exit id) s
 | .label _,_,s,K=>K .normal s
 | .goto l,_,s,K=>K (.goto l) s
 | .ret,_,s,K=>K .ret s
 | .scope c,_,s,K=>H c s K
 |_,_,_,_=>none
def Bl:Code->List Nat
 | .seq a b=>Bl a++Bl b
 | .label l=>[l]
 |_=>[]
def BJ:Code->Nat->Option Code
 | .seq a b,l=>match a with
  | .label l'=>bif Nat.beq l' l then some b else BJ b l
  |_=>BJ b l
 |_,_=>none
def PO:List Nat->Bool
 | []=>true
 |a::l=>!l.contains a&&PO l
theorem Ns: ∀ {l:List Nat},PO l=true->l.Nodup
 | [],_=>List.nodup_nil
 |a::l,h=>by
  have h:(!l.contains a&&PO l)=true:=h;rw [bAE,Bool.not_eq_true']at h;exact List.nodup_cons.2 ⟨λhm=>by grind,Ns h.2⟩
def OU:Code->Bool
 | .label _=>true
 |_=>false
def Mf:Code->Bool
 | .seq a b=>(OU a||(Bl a).isEmpty)&&Mf b
 |c=>(Bl c).isEmpty
@[reducible] def LO.fin1 {X R:Type}:LO X R->Option R
 | .ret r=>some r
 |_=>none
def Up{R:Type}(L Rh:List Nat)(s:St)(keep:Nat)(tys:List Ty)(l:Nat)(s':St):Option (LO (Nat×(Bb tys).T) R):=match X9 L Rh s s' keep with
 |some cs=>match toX tys cs with
  |some x=>some (.next (l,x))
  |none=>none
 |none=>none
def Aai{R:Type}(L Rh:List Nat)(s:St)(keep:Nat)(tys:List Ty)(K:Exit->St->Option R)(e:Exit)(s':St):Option (LO (Nat×(Bb tys).T) R):=match e with
 | .goto l=>Up L Rh s keep tys l s'
 | .normal=>HO (K .normal s')
 | .exit id=>HO (K (.exit id) s')
 | .ret=>HO (K .ret s')
 |_=>none
noncomputable def D4(E:Cb):Code->{R:Type}->St->(Exit->St->Option R)->(Nat->St->Option R)->Option R
 | .seq a b,_,s,K,KL=>match a with
  | .label l=>KL l s
  |a=>BP (λ_ _ _ _=>none) E a s λe s'=>match e with
   | .normal=>D4 E b s' K KL
   | .exit id=>K (.exit id) s'
   | .ret=>K .ret s'
   | .goto l=>K (.goto l) s'
   |_=>none
 |c,_,s,K,_=>BP (λ_ _ _ _=>none) E c s K
noncomputable def Io(E:Cb)(c:Code)(ops:List Oper)(L Rh:List Nat)(s:St)(tys:List Ty){R:Type}(K:Exit->St->Option R)(l:Nat)(x:(Bb tys).T):List Nat->Option (LO (Nat×(Bb tys).T) R)
 | []=>none
 |i::ls=>nif l i (match BJ c i with
  |some rest=>D4 E rest (A6 true ops L Rh s (ofX tys x)) (Aai L Rh s E.h.keep tys K) (Up L Rh s E.h.keep tys)
  |none=>none) (Io E c ops L Rh s tys K l x ls)
def YU{R:Type}(K:Exit->St->Option R)(e:Exit)(s:St):Option R:=match e with
 | .goto _=>none
 |e=>K e s
noncomputable def Vv(E:Cb)(c:Code){R:Type}(s:St)(K:Exit->St->Option R):Option R:=bif Mf c&&PO (Bl c)then D4 E c s (YU K) λl s1=>match BJ c l with
  |some c1=>match Q9 s1 E.lp (Bm c)with
   |(L,Rh)=>bif Jx (AJ c1) L Rh s1 then(match X9 L Rh s1 s1 E.h.keep with
    |some cs=>match toX (cs.map (·.t)) cs with
     |some x=>H1 (A3 (λy=>Io E c (AJ c1) L Rh s1 (cs.map (·.t)) K y.1 y.2 (Bl c)) (l,x)) LO.fin1
     |none=>none
    |none=>none)else none
  |none=>none else none
noncomputable def texec(E:Cb):Code->{R:Type}->St->(Exit->St->Option R)->Option R:=BP (Vv E) E
theorem JJ{t0:Nat->Sl}: ∀ (L:List Nat) (cs:List Dy) (t:Nat->Sl) (i:Nat),L.contains i=false->(Kc t0 L cs t).1 i=t i
 | [],cs,t,i,_=>rfl
 |d::L,cs,t,i,h=>by
  rw [List.contains_cons,Bool.or_eq_false_iff]at h;unfold Kc;rw [JJ L _ _ i h.2];have hne:i≠d:=by
   grind
  exact AU hne
theorem Hu{r0:List Aa}: ∀ (Rh:List Nat) (cs:List Dy) (r:List Aa) (i:Nat),Rh.contains i=false->(DS r0 Rh cs r).getD i .dead=r.getD i .dead
 | [],cs,r,i,_=>rfl
 |d::L,cs,r,i,h=>by
  rw [List.contains_cons,Bool.or_eq_false_iff]at h;unfold DS;rw [Hu L _ _ i h.2]
  grind
theorem Ht{r0:List Aa}: ∀ (Rh:List Nat) (cs:List Dy) (r:List Aa),(DS r0 Rh cs r).length=r.length
 | [],cs,r=>rfl
 |d::L,cs,r=>by unfold DS;rw [Ht L,List.length_set]
theorem OX{ro:Bool}{b:List Oper}(h:Jx b L Rh s=true):Kp (Ai b) s (A6 ro b L Rh s cs):=by
 unfold Jx at h;rw [bAE]at h;refine⟨λi hi hs=>?_,λid hl hid=>?_,?_⟩
 ·have hc:L.contains i=false:=by
   grind
  show(Kc s.t L cs _).1 i=_;rw [JJ L _ _ i hc];show(bif Ai b i&&(s.t i).stay then s.t i else _)=_;rw [hi,hs];rfl
 ·have hc:Rh.contains id=false:=by
   grind
  show(DS s.r Rh _ (bif ro then s.r.map Bq else s.r)).getD id .dead=_;rw [Hu Rh _ _ id hc];cases ro with
  |false=>rfl
  |true=>
   show(s.r.map Bq).getD id .dead=_
   have e:(s.r.map Bq).getD id .dead=Bq (s.r.getD id .dead):=by
    simp only [gDE,List.getElem?_map];cases s.r[id]? <;>rfl
   rw [e];generalize s.r.getD id .dead=x at hid;cases x with
   |dead=>rfl
   |obj ro l=>have hid:ro=true:=hid;subst hid;rfl
   |arr ro t d xs=>have hid:ro=true:=hid;subst hid;rfl
   |opt ro t d xs=>have hid:ro=true:=hid;subst hid;rfl
 ·show s.r.length<=(DS s.r Rh _ (bif ro then s.r.map Bq else s.r)).length
  rw [Ht];cases ro<;>simp
theorem KM{b:List Oper}{s':St}(hk:Kp (Ai b) (A6 true b L Rh s cs) s'):
  (∀i,L.contains i=false->Ai b i=true->(s.t i).stay=true->s'.t i=s.t i)/\
  (∀id,id<s.r.length->Rh.contains id=false->(s'.r.getD id .dead).v=(s.r.getD id .dead).v/\(s'.r.getD id .dead).len=(s.r.getD id .dead).len)/\
  (∀id,id<s.r.length->Rh.contains id=false->∀q:AR,((s'.r.getD id .dead).at' q).len=((s.r.getD id .dead).at' q).len):=by
 have hR: ∀id,id<s.r.length->Rh.contains id=false->s'.r.getD id .dead=Bq (s.r.getD id .dead):=λid hl hc=>by
  have e:(A6 true b L Rh s cs).r.getD id .dead=Bq (s.r.getD id .dead):=by
   show(DS s.r Rh _ (s.r.map Bq)).getD id .dead=_;rw [Hu Rh _ _ id hc]
   grind
  have hro:(Bq (s.r.getD id .dead)).isRo=true:=by cases s.r.getD id .dead<;>rfl
  have hlen:(A6 true b L Rh s cs).r.length=s.r.length:=by
   show(DS s.r Rh _ (s.r.map Bq)).length=_;rw [Ht,List.length_map]
  rw [hk.r id (by rw [hlen];exact hl) (by rw [e];exact hro),e]
 refine⟨λi hc hi hs=>?_,λid hl hc=>?_,λid hl hc q=>by rw [hR id hl hc];exact Yu q _ _ (I9 _)⟩
 ·have e:(A6 true b L Rh s cs).t i=s.t i:=by
   show(Kc s.t L cs _).1 i=_;rw [JJ L _ _ i hc]
   grind
  rw [hk.t i hi (by rw [e];exact hs),e]
 ·have e:(A6 true b L Rh s cs).r.getD id .dead=Bq (s.r.getD id .dead):=by
   show(DS s.r Rh _ (s.r.map Bq)).getD id .dead=_;rw [Hu Rh _ _ id hc]
   grind
  have hro:(Bq (s.r.getD id .dead)).isRo=true:=by cases s.r.getD id .dead<;>rfl
  have hlen:(A6 true b L Rh s cs).r.length=s.r.length:=by
   show(DS s.r Rh _ (s.r.map Bq)).length=_;rw [Ht,List.length_map]
  rw [hk.r id (by rw [hlen];exact hl) (by rw [e];exact hro),e]
  exact Ly _
theorem N0{R:Type}{K:Exit->St->Option R}{z:R}{s:St}: ∀ (l:List Nat) (id:Nat),brkK K l id s=some z->K (.exit id) s=some z
 | [],id,h=>by cases h
 |i::l,id,h=>by
  have h:(if id=i then K (.exit i) s else brkK K l id s)=some z:=h
  split at h
  ·grind
  ·exact N0 l id h
theorem Z1{P:Program}{H:Code->{R:Type}->St->(Exit->St->Option R)->Option R}(hkeep:C.m<=E.h.keep){b:Code}
  (ih: ∀ {R:Type} (s:St) (K:Exit->St->Option R) (z:R) (Q:Exit->Act->World->Prop) (a:Act) (w:World),AI C E.h.n s.den a w->BP H E b s K=some z->(∀e s' a' w',Kp (Ai (AJ b)) s s'->AI C E.h.n s'.den a' w'->K e s'=some z->Q e a' w')->b.wp P Q a w)
  {R:Type} {s:St} {K:Exit->St->Option R} {z:R} {Q:Exit->Act->World->Prop} {a:Act} {w:World} (hs:AI C E.h.n s.den a w) {L Rh:List Nat} (hok:Jx (AJ b) L Rh s=true) {tys:List Ty} {cs:List Dy} (hcs:X9 L Rh s s E.h.keep=some cs) {x0:(Bb tys).T} (hx0':ofX tys x0=cs)
  (h:(A3 (λx=>BP H E b (A6 true (AJ b) L Rh s (ofX tys x)) (Uh L Rh s E.h.keep tys K)) x0).bind (Yi b L Rh s tys K)=some z)
  (hQ: ∀e s' a' w',Kp (Ai (AJ b)) s s'->AI C E.h.n s'.den a' w'->K e s'=some z->Q e a' w'):(Code.loop b).wp P Q a w:=by
 obtain⟨hd0,hdd0,D0,ρ0,F0,hcr0⟩:=id hs;have hml:C.m<=s.r.length:=by have:=hcr0.ml;simpa [St.den]using this
 let body:(Bb tys).T->Option (LO (Bb tys).T R):=λx=>BP H E b (A6 true (AJ b) L Rh s (ofX tys x)) (Uh L Rh s E.h.keep tys K)
 have h:(A3 body x0).bind (Yi b L Rh s tys K)=some z:=h;cases hl:A3 body x0 with
 |none=>rw [hl]at h;cases h
 |some o0=>
  rw [hl]at h;have h:Yi b L Rh s tys K o0=some z:=h;obtain⟨n0,hn0⟩:=Cc.1 hl
  have h0:AI C E.h.n (A6 true (AJ b) L Rh s (ofX tys x0)).den a w:=by
   rw [hx0'];exact JG hs hcs hkeep hml (λ_ _ _ _=>rfl) (λ_ _ _=>⟨rfl,rfl⟩) λ_ _ _ _=>rfl
  let I':Act->World->Prop:=λa w=>∃x n o,Ca body x o n/\Yi b L Rh s tys K o=some z/\AI C E.h.n (A6 true (AJ b) L Rh s (ofX tys x)).den a w
  have hmin: ∀ (a:Act) (w:World),∃k,I' a w->(∃x n o,Ca body x o n/\Yi b L Rh s tys K o=some z/\AI C E.h.n (A6 true (AJ b) L Rh s (ofX tys x)).den a w/\n=k)/\∀x n o,Ca body x o n->Yi b L Rh s tys K o=some z->AI C E.h.n (A6 true (AJ b) L Rh s (ofX tys x)).den a w->k<=n:=by
   intro a w;by_cases hI:I' a w
   ·obtain⟨x,n,o,g1,g2,g3⟩:=hI
    obtain⟨k,hk,hlt⟩:=OT (p:=λk=>∃x n o,Ca body x o n/\Yi b L Rh s tys K o=some z/\AI C E.h.n (A6 true (AJ b) L Rh s (ofX tys x)).den a w/\n=k) ⟨n,x,n,o,g1,g2,g3,rfl⟩
    exact⟨k,λ_=>⟨hk,λx n o g1 g2 g3=>Nat.le_of_not_lt λhl=>hlt n hl ⟨x,n,o,g1,g2,g3,rfl⟩⟩⟩
   ·exact⟨0,λh=>absurd h hI⟩
  let μ':Act->World->Nat:=λa w=>Classical.choose (hmin a w)
  have hμ':=λa w hI=>Classical.choose_spec (hmin a w) hI
  refine wp_loop I' μ' ⟨x0,n0,o0,hn0,h,h0⟩ λa w hI=>?_
  obtain⟨⟨x,n,o,g1,g2,g3,hn⟩,_⟩:=hμ' a w hI;have hn:n=μ' a w:=hn
  -- the round's own answer
  have hround: ∃lo,body x=some lo/\((∃y n',lo= .next y/\Ca body y o n'/\n=n'+1)\/(lo=o)):=by
   cases g1 with
   |brk h'=>exact⟨_,h',.inr rfl⟩
   |ret h'=>exact⟨_,h',.inr rfl⟩
   |step h' h2=>exact⟨_,h',.inl ⟨_,_,rfl,h2,rfl⟩⟩
  obtain⟨lo,hlo,hcase⟩:=hround;refine ih _ _ lo _ a w g3 hlo λe s' a' w' hk hs' hz=>?_
  obtain⟨f1,f2,f3⟩:=KM hk;have hk0:Kp (Ai (AJ b)) s s':=Kp.trans (OX hok) hk (λ_ h=>h) λ_ h=>h
  cases e with
  |normal=>
   unfold Uh at hz;simp only at hz;split at hz
   case h_2=>cases hz
   rename_i cs2 hcs2;split at hz
   case h_2=>cases hz
   rename_i x2 hx2;cases hz;rcases hcase with⟨y,n',he,hl2,hnn⟩|he
   ·cases he
    have hs2:AI C E.h.n (A6 true (AJ b) L Rh s (ofX tys x2)).den a' w':=by
     rw [Qu _ _ _ hx2];exact JG hs' hcs2 hkeep hml f1 f2 f3
    have hI2:I' a' w':=⟨x2,n',o,hl2,g2,hs2⟩;refine⟨hI2,?_⟩;have:=(hμ' a' w' hI2).2 x2 n' o hl2 g2 hs2;have:μ' a' w'<=n':=this;omega
   ·subst he
    cases g2
  |exit id=>
   unfold Uh at hz;simp only at hz;split at hz
   case h_2=>cases hz
   rename_i cs2 hcs2;split at hz
   case h_2=>cases hz
   rename_i x2 hx2;cases hz;rcases hcase with⟨y,n',he,_⟩|he
   ·cases he
   ·subst he
    have g2:brkK K (NM b).eraseDups id (A6 false (AJ b) L Rh s (ofX tys x2))=some z:=g2
    have hs2:AI C E.h.n (A6 false (AJ b) L Rh s (ofX tys x2)).den a' w':=by
     rw [Qu _ _ _ hx2];exact JG hs' hcs2 hkeep hml f1 f2 f3
    exact hQ _ _ _ _ (OX hok) hs2 (N0 _ _ g2)
  |ret=>
   have hz:(K .ret s').map LO.ret=some lo:=hz;cases hkr:K .ret s' with
   |none=>rw [hkr]at hz;cases hz
   |some r=>
    rw [hkr]at hz;cases hz;rcases hcase with⟨y,n',he,_⟩|he
    ·cases he
    ·subst he
     cases g2;exact hQ _ _ _ _ hk0 hs' hkr
  |goto l=>cases hz
  |panic ch=>cases hz
  |outgrown=>cases hz
def J2(P:Program)(E:Cb)(C:Ctx)(H:Code->{R:Type}->St->(Exit->St->Option R)->Option R):Prop:=
 ∀ (c:Code) {R:Type} (s:St) (K:Exit->St->Option R) (z:R) (Q:Exit->Act->World->Prop) (a:Act) (w:World),AI C E.h.n s.den a w->H c s K=some z->
  (∀e s' a' w',Kp (Ai (AJ c)) s s'->AI C E.h.n s'.den a' w'->K e s'=some z->Q e a' w')->(Code.scope c).wp P Q a w
theorem MB{H:Code->{R:Type}->St->(Exit->St->Option R)->Option R}(hE:EOK P E.toEnv)(hm:P.follows .mixedOrders=true)(hkeep:C.m<=E.h.keep)(hH:J2 P E C H): ∀ (c:Code) {R:Type} (s:St) (K:Exit->St->Option R) (z:R) (Q:Exit->Act->World->Prop) (a:Act) (w:World),AI C E.h.n s.den a w->BP H E c s K=some z->
  (∀e s' a' w',Kp (Ai (AJ c)) s s'->AI C E.h.n s'.den a' w'->K e s'=some z->Q e a' w')->c.wp P Q a w:=by
 intro c
 induction c with
 |skip=>intro R s K z Q a w hs h hQ;exact wp_skip (hQ _ _ _ _ (Kp.refl _ _) hs h)
 |region id ops draw=>
  intro R s K z Q a w hs h hQ;cases draw with
  |false=>
   have h:tops E.toEnv ops (W9 ops.size ops.toList) s (K .normal)=some z:=h;refine wp_region_list ?_;have:=UV hE (ops:=ops) (Q:=Q) _ s a w hs h λs' a' w' hk hs' hz=>hQ .normal s' a' w' (by rw [B3]at hk;exact hk) hs' hz
   rw [B3]at this;exact this
  |true=>exact Xp hE hm hs h λs' a' w' hk hs' hz=>hQ .normal s' a' w' hk hs' hz
 |seq x y ihx ihy=>
  intro R s K z Q a w hs h hQ
  have hsp: ∀i,Ai (AJ (.seq x y)) i=true->Ai (AJ x) i=true/\Ai (AJ y) i=true:=λi hi=>by
   have hi:Ai (AJ x++AJ y) i=true:=hi;rw [Dm,bAE]at hi;exact hi
  refine wp_seq (ihx s _ z _ a w hs h λe s' a' w' hk hs' hz=>?_)
  have hk':Kp (Ai (AJ (.seq x y))) s s':=hk.weak λi hi=>(hsp i hi).1
  cases e with
  |normal=>exact ihy s' K z Q a' w' hs' hz λe2 s2 a2 w2 hk2 hs2 hz2=>hQ e2 s2 a2 w2 (hk.trans hk2 (λi hi=>(hsp i hi).1) λi hi=>(hsp i hi).2) hs2 hz2
  |exit id=>exact hQ _ _ _ _ hk' hs' hz
  |ret=>exact hQ _ _ _ _ hk' hs' hz
  |goto l=>exact hQ _ _ _ _ hk' hs' hz
  |panic ch=>cases hz
  |outgrown=>cases hz
 |cond c x y ihx ihy=>
  intro R s K z Q a w hs h hQ
  have hsp: ∀i,Ai (AJ (.cond c x y)) i=true->Ai (AJ x) i=true/\Ai (AJ y) i=true:=λi hi=>by
   have hi:Ai (AJ x++AJ y) i=true:=hi;rw [Dm,bAE]at hi;exact hi
  have h:(match s.ev c with
   |some (.one (.c .bool _ b))=>bif b then BP H E x s K else BP H E y s K
   |_=>none)=some z:=h
  split at h
  ·rename_i d b hb
   obtain⟨hdd,D,ρ,F,hcr⟩:=hs.2;have h1:=BB hcr hdd c;rw [AZ hb]at h1;refine wp_cond (t:=b) h1.1 ?_;cases b with
   |true=>exact ihx s K z Q a w hs h λe s' a' w' hk=>hQ e s' a' w' (hk.weak λi hi=>(hsp i hi).1)
   |false=>exact ihy s K z Q a w hs h λe s' a' w' hk=>hQ e s' a' w' (hk.weak λi hi=>(hsp i hi).2)
  ·cases h
 |block id b ih=>
  intro R s K z Q a w hs h hQ;refine wp_block (ih s _ z _ a w hs h λe s' a' w' hk hs' hz=>?_)
  cases e with
  |exit id'=>
   simp only [Exit.inBlock];have hz:(bif Nat.beq id' id then K .normal s' else K (.exit id') s')=some z:=hz;by_cases he:id'=id
   ·subst he
    rw [Nat.beq_refl]at hz;rw [if_pos rfl];exact hQ _ _ _ _ hk hs' hz
   ·rw [Br he]at hz
    rw [if_neg he];exact hQ _ _ _ _ hk hs' hz
  |normal=>exact hQ _ _ _ _ hk hs' hz
  |ret=>exact hQ _ _ _ _ hk hs' hz
  |goto l=>exact hQ _ _ _ _ hk hs' hz
  |panic ch=>cases hz
  |outgrown=>cases hz
 |loop b ih=>
  intro R s0 K z Q a w hs h hQ;unfold BP at h;obtain⟨s,hso⟩: ∃s,s=LS (ozOf E.dn (Bm b)) s0:=⟨_,rfl⟩;rw [<-hso]at h;obtain⟨hden,hkp⟩:=Hg (ozOf E.dn (Bm b)) s0;rw [<-hso]at hden hkp;rw [<-hden]at hs;have hQ: ∀e s' a' w',Kp (Ai (AJ (.loop b))) s s'->AI C E.h.n s'.den a' w'->K e s'=some z->Q e a' w':=λe s' a' w' hk=>hQ e s' a' w' ((hkp _).trans hk (λ_ h=>h) λ_ h=>h)
  have h:(match Q9 s E.lp (Bm b)with
   |(L,Rh)=>bif Jx (AJ b) L Rh s then(match X9 L Rh s s E.h.keep with
    |some cs=>match toX (cs.map (·.t)) cs with
     |some x=>H1 (A3 (λx=>BP H E b (A6 true (AJ b) L Rh s (ofX (cs.map (·.t)) x)) (Uh L Rh s E.h.keep (cs.map (·.t)) K)) x) (Yi b L Rh s (cs.map (·.t)) K)
     |none=>none
    |none=>none)else none)=some z:=h
  split at h
  rename_i L Rh hlp;obtain⟨hok,h⟩:=A1 h;split at h
  case h_2=>cases h
  rename_i cs hcs;split at h
  case h_2=>cases h
  rename_i x0 hx0;have hx0':=Qu _ _ _ hx0;exact Z1 hkeep ih hs hok hcs hx0' h hQ
 |exit id=>intro R s K z Q a w hs h hQ;exact wp_exit (hQ _ _ _ _ (Kp.refl _ _) hs h)
 |label l=>intro R s K z Q a w hs h hQ;exact wp_label (hQ _ _ _ _ (Kp.refl _ _) hs h)
 |ret=>intro R s K z Q a w hs h hQ;exact wp_ret (hQ _ _ _ _ (Kp.refl _ _) hs h)
 |goto l=>intro R s K z Q a w hs h hQ;exact wp_goto (hQ _ _ _ _ (Kp.refl _ _) hs h)
 |rangeFunc f ps x y _ _=>intro R s K z Q a w hs h hQ;cases h
 |scope c _=>intro R s K z Q a w hs h hQ;exact hH c s K z Q a w hs h hQ
 |refuse s=>intro R s K z Q a w hs h hQ;cases h
theorem Lg{P:Program}{a:Act}{w:World}{Q:Exit->Act->World->Prop}{c:Code}(J:Nat->Act->World->Prop)(μ:Nat->Act->World->Nat)
  (first:c.wp P (λe a w=>match e with
   | .goto l=>(∃r,findLabel c l=some r)/\J l a w
   |e=>Q e a w) a w)
  (pass: ∀l r a w,findLabel c l=some r->J l a w->r.wp P (λe a' w'=>match e with
   | .goto l'=>(∃r',findLabel c l'=some r')/\J l' a' w'/\μ l' a' w'<μ l a w
   |e=>Q e a' w') a w):(Code.scope c).wp P Q a w:=by
 intro b k cs;have hg: ∀l r,findLabel c l=some r->gotoIn l (.inScope c::k)=some (.code r:: .inScope c::k):=λl r hf=>by simp [gotoIn,hf]
 have key: ∀n l r a w,findLabel c l=some r->μ l a w=n->J l a w->∃e a' w',Q e a' w'/\Arrives P (lone (b.at a (.code r:: .inScope c::k)) cs w) b k cs e a' w':=by
  intro n
  induction n using Nat.strongRecOn with
  |_ n ih=>
   intro l r a w hf hn hJ;obtain⟨e,a₁,w₁,hq,harr⟩:=pass l r a w hf hJ b (.inScope c::k) cs;cases e with
   |normal=>exact⟨.normal,a₁,w₁,hq,Steps.trans harr (.one step_inScope)⟩
   |exit id=>exact⟨.exit id,a₁,w₁,hq,λk' hk=>harr k' (by trivial)⟩
   |goto l'=>
    obtain⟨⟨r',hf'⟩,hJ',hlt⟩:=hq;obtain⟨e₂,a₂,w₂,hq₂,harr₂⟩:=ih _ (by omega) l' r' a₁ w₁ hf' rfl hJ'
    exact⟨e₂,a₂,w₂,hq₂,.of_steps (harr _ (hg l' r' hf')) harr₂⟩
   |ret=>exact⟨_,a₁,w₁,hq,harr⟩
   |panic ch=>exact⟨_,a₁,w₁,hq,harr⟩
   |outgrown=>exact⟨_,a₁,w₁,hq,harr⟩
 obtain⟨e,a₁,w₁,hq,harr⟩:=first b (.inScope c::k) cs
 cases e with
 |normal=>exact⟨.normal,a₁,w₁,hq,.head step_scope (Steps.trans harr (.one step_inScope))⟩
 |exit id=>exact⟨.exit id,a₁,w₁,hq,λk' hk=>.head step_scope (harr k' (by simp [exitTo,hk]))⟩
 |goto l'=>
  obtain⟨⟨r',hf'⟩,hJ'⟩:=hq;obtain⟨e₂,a₂,w₂,hq₂,harr₂⟩:=key _ l' r' a₁ w₁ hf' rfl hJ';exact⟨e₂,a₂,w₂,hq₂,.of_steps (.head step_scope (harr _ (hg l' r' hf'))) harr₂⟩
 |ret=>exact⟨_,a₁,w₁,hq,.of_steps (.one step_scope) harr⟩
 |panic ch=>exact⟨_,a₁,w₁,hq,.of_steps (.one step_scope) harr⟩
 |outgrown=>exact⟨_,a₁,w₁,hq,.of_steps (.one step_scope) harr⟩
theorem CQ(h: ¬∃l,a= .label l)(l:Nat):BJ (.seq a b) l=BJ b l:=by
 cases a<;>first|rfl|grind
theorem Qw(h: ¬∃l,a= .label l)(s:St)(K:Exit->St->Option R)(KL:Nat->St->Option R):D4 E (.seq a b) s K KL=BP (λ_ _ _ _=>none) E a s λe s'=>match e with
   | .normal=>D4 E b s' K KL
   | .exit id=>K (.exit id) s'
   | .ret=>K .ret s'
   | .goto l=>K (.goto l) s'
   |_=>none:=by
 cases a<;>first|rfl|grind
theorem DQ: ∀ (c:Code) (l:Nat),(Bl c).isEmpty=true->findLabel c l=none
 | .seq a b,l,h=>by
  have h:(Bl a++Bl b).isEmpty=true:=h;rw [List.isEmpty_iff,List.append_eq_nil_iff]at h;have h:(Bl a).isEmpty=true/\(Bl b).isEmpty=true:=⟨by grind,by grind⟩
  unfold findLabel;rw [DQ a l h.1,DQ b l h.2]
 | .label l',l,h=>by cases h
 | .skip,_,_=>rfl
 | .region ..,_,_=>rfl
 | .cond ..,_,_=>rfl
 | .block ..,_,_=>rfl
 | .loop ..,_,_=>rfl
 | .exit ..,_,_=>rfl
 | .goto ..,_,_=>rfl
 | .ret,_,_=>rfl
 | .scope ..,_,_=>rfl
 | .rangeFunc ..,_,_=>rfl
 | .refuse ..,_,_=>rfl
theorem II{P:Program}: ∀ (c b:Code) (l:Nat),Mf c=true->BJ c l=some b->∃r,findLabel c l=some r/\∀Q a w,b.wp P Q a w->r.wp P Q a w
 | .seq a b',b,l,hc,h=>by
  have hc:((OU a||(Bl a).isEmpty)&&Mf b')=true:=hc;rw [bAE,Bool.or_eq_true]at hc;by_cases hl: ∃l',a= .label l'
  ·obtain⟨l',rfl⟩:=hl
   have h:(bif Nat.beq l' l then some b' else BJ b' l)=some b:=h;cases he:Nat.beq l' l with
   |true=>
    rw [he]at h;have e:l'=l:=bqE he;subst e;obtain rfl:b'=b:=Option.some.inj h;exact⟨.seq .skip b',by simp [findLabel],λQ a w hw=>wp_seq (wp_skip hw)⟩
   |false=>
    rw [he]at h;obtain⟨r,h1,h2⟩:=II b' b l hc.2 h;refine⟨r,?_,h2⟩;have e:l'≠l:=λe=>by subst e;rw [Nat.beq_refl]at he;cases he
    simp [findLabel,e,h1]
  ·rw [CQ hl]at h
   obtain⟨r,h1,h2⟩:=II b' b l hc.2 h;refine⟨r,?_,h2⟩;have hn:findLabel a l=none:=by
    rcases hc.1 with h'|h'
    ·exfalso
     unfold OU at h'
     grind
    ·exact DQ a l h'
   unfold findLabel;rw [hn,h1]
 | .label ..,_,_,_,h=>by cases h
 | .skip,_,_,_,h=>by cases h
 | .region ..,_,_,_,h=>by cases h
 | .cond ..,_,_,_,h=>by cases h
 | .block ..,_,_,_,h=>by cases h
 | .loop ..,_,_,_,h=>by cases h
 | .exit ..,_,_,_,h=>by cases h
 | .goto ..,_,_,_,h=>by cases h
 | .ret,_,_,_,h=>by cases h
 | .scope ..,_,_,_,h=>by cases h
 | .rangeFunc ..,_,_,_,h=>by cases h
 | .refuse ..,_,_,_,h=>by cases h
def KQ:Code->Option Nat
 | .seq a b=>match a with
  | .label l=>some l
  |_=>KQ b
 |_=>none
theorem KP(h: ¬∃l,a= .label l):KQ (.seq a b)=KQ b:=by
 cases a<;>first|rfl|grind
theorem Ow{r:Code}{l:Nat}: ∀ {c:Code},KQ c=some l->BJ c l=some b->BJ c i=some r->(i=l/\r=b)\/BJ b i=some r:=by
 intro c
 induction c with
 |seq a b' iha ihb=>
  intro h1 h2 h3;by_cases hl: ∃l',a= .label l'
  ·obtain⟨l',rfl⟩:=hl
   cases h1;have h2:(bif Nat.beq l l then some b' else BJ b' l)=some b:=h2;rw [Nat.beq_refl]at h2;obtain rfl:b'=b:=Option.some.inj h2;have h3:(bif Nat.beq l i then some b' else BJ b' i)=some r:=h3;cases he:Nat.beq l i with
   |true=>simp_all
   |false=>grind
  ·have e1:=KP (b:=b') hl
   have e2:=CQ (b:=b') hl
   grind
 |_=>intro h1;trivial
theorem Jj: ∀ (c b:Code) (l:Nat),BJ c l=some b->Ai (AJ c) i=true->Ai (AJ b) i=true:=by
 intro c
 induction c with
 |seq a b' iha ihb=>
  intro b l h hi;have hi:Ai (AJ a++AJ b') i=true:=hi;rw [Dm,bAE]at hi;by_cases hl: ∃l',a= .label l'
  ·obtain⟨l',rfl⟩:=hl
   have h:(bif Nat.beq l' l then some b' else BJ b' l)=some b:=h
   grind
  ·rw [CQ hl]at h;grind
 |_=>intro b l h;cases h
theorem J2.none{P:Program}{E:Cb}{C:Ctx}:J2 P E C (λ_ _ _ _=>.none):=λ_ _ _ _ _ _ _ _ _ h=>by grind
theorem MA(hE:EOK P E.toEnv)(hm:P.follows .mixedOrders=true)(hkeep:C.m<=E.h.keep): ∀ (c:Code) {R:Type} (s:St) (K:Exit->St->Option R) (KL:Nat->St->Option R) (z:R) (Q:Exit->Act->World->Prop) (a:Act) (w:World),AI C E.h.n s.den a w->D4 E c s K KL=some z->
  (∀e s' a' w',Kp (Ai (AJ c)) s s'->AI C E.h.n s'.den a' w'->K e s'=some z->Q e a' w')->
  (∀l b s' a' w',Kp (Ai (AJ c)) s s'->AI C E.h.n s'.den a' w'->KL l s'=some z->KQ c=some l->BJ c l=some b->b.wp P Q a' w')->c.wp P Q a w:=by
 have base:=MB hE hm hkeep J2.none;intro c
 induction c with
 |seq x y ihx ihy=>
  intro R s K KL z Q a w hs h hQ hL;have hsp:=λi hi=>by
   have hi:Ai (AJ x++AJ y) i=true:=hi;rw [Dm,bAE]at hi;exact hi
  by_cases hl: ∃l,x= .label l
  ·obtain⟨l,rfl⟩:=hl
   have h:KL l s=some z:=h;exact wp_seq (wp_label (hL l y s a w (Kp.refl _ _) hs h rfl (by show(bif Nat.beq l l then some y else BJ y l)=_;rw [Nat.beq_refl];rfl)))
  ·have h:=(Qw hl s K KL).symm.trans h
   have e1:=KP (b:=y) hl;have e2:=CQ (b:=y) hl;refine wp_seq (base x s _ z _ a w hs h λe s' a' w' hk hs' hz=>?_)
   have hk':Kp (Ai (AJ (.seq x y))) s s':=hk.weak λi hi=>(hsp i hi).1
   cases e with
   |normal=>
    exact ihy s' K KL z Q a' w' hs' hz (λe2 s2 a2 w2 hk2 hs2 hz2=>hQ e2 s2 a2 w2 (hk.trans hk2 (λi hi=>(hsp i hi).1) λi hi=>(hsp i hi).2) hs2 hz2)
     λl b s2 a2 w2 hk2 hs2 hz2 h1 h2=>hL l b s2 a2 w2 (hk.trans hk2 (λi hi=>(hsp i hi).1) λi hi=>(hsp i hi).2) hs2 hz2 (e1.trans h1) ((e2 l).trans h2)
   |exit id=>exact hQ _ _ _ _ hk' hs' hz
   |ret=>exact hQ _ _ _ _ hk' hs' hz
   |goto l=>exact hQ _ _ _ _ hk' hs' hz
   |panic ch=>cases hz
   |outgrown=>cases hz
 |skip=>intro R s K KL z Q a w hs h hQ _;exact base _ s K z Q a w hs h hQ
 |region=>intro R s K KL z Q a w hs h hQ _;exact base _ s K z Q a w hs h hQ
 |cond=>intro R s K KL z Q a w hs h hQ _;exact base _ s K z Q a w hs h hQ
 |block=>intro R s K KL z Q a w hs h hQ _;exact base _ s K z Q a w hs h hQ
 |loop=>intro R s K KL z Q a w hs h hQ _;exact base _ s K z Q a w hs h hQ
 |exit=>intro R s K KL z Q a w hs h hQ _;exact base _ s K z Q a w hs h hQ
 |label=>intro R s K KL z Q a w hs h hQ _;exact base _ s K z Q a w hs h hQ
 |ret=>intro R s K KL z Q a w hs h hQ _;exact base _ s K z Q a w hs h hQ
 |goto=>intro R s K KL z Q a w hs h hQ _;exact base _ s K z Q a w hs h hQ
 |rangeFunc=>intro R s K KL z Q a w hs h hQ _;exact base _ s K z Q a w hs h hQ
 |scope=>intro R s K KL z Q a w hs h hQ _;exact base _ s K z Q a w hs h hQ
 |refuse=>intro R s K KL z Q a w hs h hQ _;exact base _ s K z Q a w hs h hQ
theorem Ji{E:Cb}{c:Code}{ops:List Oper}{L Rh:List Nat}{s:St}{tys:List Ty}{R:Type}{K:Exit->St->Option R}{l:Nat}{x:(Bb tys).T}{o:LO (Nat×(Bb tys).T) R}: ∀ (ls:List Nat),Io E c ops L Rh s tys K l x ls=some o->
  ∃r,BJ c l=some r/\D4 E r (A6 true ops L Rh s (ofX tys x)) (Aai L Rh s E.h.keep tys K) (Up L Rh s E.h.keep tys)=some o
 | [],h=>by cases h
 |i::ls,h=>by
  have h:(if l=i then(match BJ c i with
   |some rest=>D4 E rest (A6 true ops L Rh s (ofX tys x)) (Aai L Rh s E.h.keep tys K) (Up L Rh s E.h.keep tys)
   | .none=>.none)else Io E c ops L Rh s tys K l x ls)=some o:=h
  split at h
  ·grind
  ·exact Ji ls h
theorem Vz{o:Option R}{lo:LO X R}(h:HO o=some lo): ∃z,o=some z/\lo= .ret z:=by
 cases o with
 |none=>grind
 |some z=>grind
theorem VA: ∀ {c b:Code} {l:Nat},BJ c l=some b->l∈Bl c:=by
 intro c
 induction c with
 |seq a b' iha ihb=>
  intro b l h;show l∈Bl a++Bl b';by_cases hl: ∃l',a= .label l'
  ·obtain⟨l',rfl⟩:=hl
   have h:(bif Nat.beq l' l then some b' else BJ b' l)=some b:=h;cases he:Nat.beq l' l with
   |true=>rw [<-bqE he];simp [Bl]
   |false=>grind
  ·rw [CQ hl]at h;grind
 |_=>intro b l h;cases h
theorem QT: ∀ {c b r:Code} {l i:Nat},(Bl c).Nodup->BJ c l=some b->BJ b i=some r->BJ c i=some r:=by
 intro c
 induction c with
 |seq a b' iha ihb=>
  intro b r l i hn h1 h2;have hn:(Bl a++Bl b').Nodup:=hn;rw [List.nodup_append]at hn;by_cases hl: ∃l',a= .label l'
  ·obtain⟨k,rfl⟩:=hl
   have h1:(bif Nat.beq k l then some b' else BJ b' l)=some b:=h1;have hi:BJ b' i=some r:=by
    grind
   have hne:=hn.2.2 k (by simp [Bl]) i (VA hi)
   show(bif Nat.beq k i then some b' else BJ b' i)=_;rw [Br hne]
   grind
  ·have e2:=CQ (b:=b') hl
   rw [e2]at h1⊢
   grind
 |_=>intro b r l i _ h;cases h
theorem Vu(hE:EOK P E.toEnv)(hm:P.follows .mixedOrders=true)(hkeep:C.m<=E.h.keep):J2 P E C (Vv E):=by
 intro c R s K z Q a w hs h hQ;unfold Vv at h;obtain⟨hch,h⟩:=A1 h;rw [bAE]at hch;obtain⟨hch,hnd⟩:=hch;have hnd:=Ns hnd;have h:D4 E c s (YU K) _=some z:=h
 let D:Nat->Nat->Act->World->Prop:=λn l a w=>∃ (l0:Nat) (c1:Code) (L Rh:List Nat) (s1:St) (tys:List Ty) (x:(Bb tys).T),KQ c=some l0/\BJ c l0=some c1/\Jx (AJ c1) L Rh s1=true/\Kp (Ai (AJ c)) s s1/\C.m<=s1.r.length/\
  Ca (λy:Nat×(Bb tys).T=>Io E c (AJ c1) L Rh s1 tys K y.1 y.2 (Bl c)) (l,x) (.ret z) n/\AI C E.h.n (A6 true (AJ c1) L Rh s1 (ofX tys x)).den a w
 have claim: ∀n l a w,D n l a w->∃b,BJ c l=some b/\b.wp P (λe a' w'=>match e with
   | .goto l'=>∃n',n'<n/\D n' l' a' w'
   |e=>Q e a' w') a w:=by
  intro n
  induction n using Nat.strongRecOn with
  |_ n ih=>
  intro l a w hD;obtain⟨l0,c1,L,Rh,s1,tys,x,hf0,hr0,hok,hk1,hml,hT,hsr⟩:=hD
  have hround: ∃lo,Io E c (AJ c1) L Rh s1 tys K l x (Bl c)=some lo/\((∃y n',lo= .next y/\Ca (λy:Nat×(Bb tys).T=>Io E c (AJ c1) L Rh s1 tys K y.1 y.2 (Bl c)) y (.ret z) n'/\n=n'+1)\/(lo= .ret z)):=by
   cases hT with
   |ret h'=>exact⟨_,h',.inr rfl⟩
   |step h' h2=>exact⟨_,h',.inl ⟨_,_,rfl,h2,rfl⟩⟩
  obtain⟨lo,hlo,hcase⟩:=hround;obtain⟨b,hb,hex⟩:=Ji _ hlo;refine⟨b,hb,?_⟩
  have hdst: ∀i,Ai (AJ c1) i=true->Ai (AJ b) i=true:=λi hi=>by
   rcases Ow (c:=c) hf0 hr0 hb with⟨_,rfl⟩|h
   ·exact hi
   ·exact Jj c1 b l h hi
  have hgo: ∀ (l':Nat) (s':St) (a':Act) (w':World),Kp (Ai (AJ b)) (A6 true (AJ c1) L Rh s1 (ofX tys x)) s'->AI C E.h.n s'.den a' w'->Up L Rh s1 E.h.keep tys l' s'=some lo->∃n',n'<n/\D n' l' a' w':=by
   intro l' s' a' w' hk hs' hx;unfold Up at hx;split at hx
   case h_2=>cases hx
   rename_i cs2 hcs2;split at hx
   case h_2=>cases hx
   rename_i x2 hx2;cases hx;rcases hcase with⟨y,n',he,hT',hn'⟩|he
   ·cases he
    obtain⟨f1,f2,f3⟩:=KM (hk.weak hdst);refine⟨n',by omega,l0,c1,L,Rh,s1,tys,x2,hf0,hr0,hok,hk1,hml,hT',?_⟩
    rw [Qu _ _ _ hx2];exact JG hs' hcs2 hkeep hml f1 f2 f3
   ·cases he
  have hk0: ∀s',Kp (Ai (AJ b)) (A6 true (AJ c1) L Rh s1 (ofX tys x)) s'->Kp (Ai (AJ c)) s s':=λs' hk=>
   Kp.trans hk1 (Kp.trans (OX hok) hk (g:=Ai (AJ c)) (λi hi=>Jj c c1 l0 hr0 hi) λi hi=>Jj c b l hb hi) (λ_ h=>h) λ_ h=>h
  refine MA hE hm hkeep b _ _ _ lo _ a w hsr hex (λe s' a' w' hk hs' hz=>?_) λl' b' s' a' w' hk hs' hz _ h2=>?_
  ·have hret: ∀e',HO (K e' s')=some lo->Q e' a' w':=λe' hz=>by
    obtain⟨z',h1,rfl⟩:=Vz hz;rcases hcase with⟨_,_,he,_⟩|he
    ·cases he
    ·cases he
     exact hQ _ _ _ _ (hk0 s' hk) hs' h1
   cases e with
   |goto l'=>exact hgo l' s' a' w' hk hs' hz
   |normal=>exact hret _ hz
   |exit id=>exact hret _ hz
   |ret=>exact hret _ hz
   |panic ch=>cases hz
   |outgrown=>cases hz
  ·obtain⟨n',hn',hD'⟩:=hgo l' s' a' w' hk hs' hz
   obtain⟨b2,hb2,hw2⟩:=ih n' hn' l' a' w' hD';rw [QT hnd hb h2]at hb2;cases hb2;refine _root_.Go.wp_mono hw2 λe a w hq=>?_
   cases e with
   |goto l2=>obtain⟨n2,h1,h2⟩:=hq;exact⟨n2,by omega,h2⟩
   |normal=>exact hq
   |exit id=>exact hq
   |ret=>exact hq
   |panic ch=>exact hq
   |outgrown=>exact hq
 have hlab: ∀n l a w,D n l a w->∃r,findLabel c l=some r:=λn l a w hD=>by
  obtain⟨b,hb,_⟩:=claim n l a w hD;obtain⟨r,hr,_⟩:=II (P:=P) c b l hch hb;exact⟨r,hr⟩
 have hmin: ∀ (l:Nat) (a:Act) (w:World),∃k,(∃n,D n l a w)->D k l a w/\∀n,D n l a w->k<=n:=by
  intro l a w;by_cases hJ: ∃n,D n l a w
  ·obtain⟨k,hk,hlt⟩:=OT hJ
   exact⟨k,λ_=>⟨hk,λn hn=>Nat.le_of_not_lt λhl=>hlt n hl hn⟩⟩
  ·exact⟨0,λh=>absurd h hJ⟩
 refine Lg (λl a w=>∃n,D n l a w) (λl a w=>Classical.choose (hmin l a w)) ?_ ?_
 ·refine MA hE hm hkeep c s _ _ z _ a w hs h (λe s' a' w' hk hs' hz=>?_) λl b s1 a' w' hk hs' hz h1 h2=>?_
  ·cases e with
   |goto l=>cases hz
   |normal=>exact hQ _ _ _ _ hk hs' hz
   |exit id=>exact hQ _ _ _ _ hk hs' hz
   |ret=>exact hQ _ _ _ _ hk hs' hz
   |panic ch=>exact hQ _ _ _ _ hk hs' hz
   |outgrown=>exact hQ _ _ _ _ hk hs' hz
  ·rw [h2]at hz
   generalize Q9 s1 E.lp (Bm c)=p at hz;obtain⟨L,Rh⟩:=p;simp only at hz;obtain⟨hok,hz⟩:=A1 hz;split at hz
   case h_2=>cases hz
   rename_i cs hcs;split at hz
   case h_2=>cases hz
   rename_i x hx;have hml:C.m<=s1.r.length:=by
    obtain⟨hd0,hdd0,D0,ρ0,F0,hcr0⟩:=id hs';have:=hcr0.ml;simpa [St.den]using this
   cases hl:A3 (λy:Nat×(Bb (cs.map (·.t))).T=>Io E c (AJ b) L Rh s1 (cs.map (·.t)) K y.1 y.2 (Bl c)) (l,x)with
   |none=>rw [hl]at hz;cases hz
   |some o=>
   rw [hl]at hz;cases o with
   |next=>cases hz
   |brk=>cases hz
   |ret r=>
   cases hz;obtain⟨n,hn⟩:=Cc.1 hl;have hD:D n l a' w':=by
    refine⟨l,b,L,Rh,s1,_,x,h1,h2,hok,hk,hml,hn,?_⟩;rw [Qu _ _ _ hx];exact JG hs' hcs hkeep hml (λ_ _ _ _=>rfl) (λ_ _ _=>⟨rfl,rfl⟩) λ_ _ _ _=>rfl
   obtain⟨b2,hb2,hw2⟩:=claim n l a' w' hD;rw [h2]at hb2;cases hb2;refine _root_.Go.wp_mono hw2 λe a w hq=>?_
   cases e with
   |goto l2=>obtain⟨n2,h1,h2⟩:=hq;exact⟨hlab _ _ _ _ h2,n2,h2⟩
   |normal=>exact hq
   |exit id=>exact hq
   |ret=>exact hq
   |panic ch=>exact hq
   |outgrown=>exact hq
 ·intro l r a w hf hJ
  obtain⟨hD,_⟩:=Classical.choose_spec (hmin l a w) hJ;obtain⟨b,hb,hw⟩:=claim _ l a w hD;obtain⟨r',hr',hrw⟩:=II c b l hch hb;rw [hf]at hr';cases hr';refine hrw _ _ _ (_root_.Go.wp_mono hw λe a' w' hq=>?_)
  cases e with
  |goto l2=>
   obtain⟨n2,h1,h2⟩:=hq;refine⟨hlab _ _ _ _ h2,⟨n2,h2⟩,?_⟩;have:=(Classical.choose_spec (hmin l2 a' w') ⟨n2,h2⟩).2 n2 h2;show Classical.choose (hmin l2 a' w')<Classical.choose (hmin l a w);omega
  |normal=>exact hq
  |exit id=>exact hq
  |ret=>exact hq
  |panic ch=>exact hq
  |outgrown=>exact hq
theorem Xo(hE:EOK P E.toEnv)(hm:P.follows .mixedOrders=true)(hkeep:C.m<=E.h.keep)(c:Code)(s:St)(K:Exit->St->Option R)(z:R)(Q:Exit->Act->World->Prop)(a:Act)(w:World)(hs:AI C E.h.n s.den a w)(h:texec E c s K=some z)
  (hQ: ∀e s' a' w',Kp (Ai (AJ c)) s s'->AI C E.h.n s'.den a' w'->K e s'=some z->Q e a' w'):c.wp P Q a w:=
 MB hE hm hkeep (Vu hE hm hkeep) c s K z Q a w hs h hQ
end Go.Ve


namespace Go.Ve
variable{l:List Cl}{P:Program}{s:St}
def divP:AR->AR->Bool
 |(_,k)::p,(_,l)::q=>!Nat.beq k l||divP p q
 |_,_=>false
theorem Qb{x:V}: ∀ {p q:AR} (_:divP p q=true) (v:V),sub q (upd p v x)=sub q v/\AW p q=false
 |(i,k)::p,(j,l)::q,h0,v=>by
  have h:(!Nat.beq k l||divP p q)=true:=h0;by_cases hkl:k=l
  ·subst hkl
   rw [Nat.beq_refl,Bool.not_true,Bool.false_or]at h;refine⟨?_,?_⟩
   ·cases v with
    |nd s o sz n f=>
     show sub q (if j=i/\k=k then upd p (f i k) x else f j k)=sub q (f j k)
     by_cases hji:j=i
     ·subst hji
      rw [if_pos ⟨rfl,rfl⟩];exact(Qb h (f j k)).1
     grind
    |_=>rfl
   ·show(i==j&&k==k&&AW p q)=false
    rw [(Qb (x:=x) h v).2,Bool.and_false]
  ·refine⟨?_,?_⟩
   ·cases v with
    |nd s o sz n f=>
     show sub q (if j=i/\l=k then upd p (f i k) x else f j l)=sub q (f j l)
     grind
    |_=>rfl
   ·show(i==j&&k==l&&AW p q)=false
    grind
 | [],_,h,_=>by cases h
 |_::_,[],h,_=>by cases h
def CD:List Cl->List (Nat×AR)
 | []=>[]
 | .rf id p::l=>(id,p)::CD l
 |_::l=>CD l
def Qa(a b:Nat×AR):Bool:=!Nat.beq a.1 b.1||divP a.2 b.2
def NU:List (Nat×AR)->Bool
 | []=>true
 |a::l=>l.all (Qa a)&&NU l
def Zs(r:List Aa):Cl->Option Cl
 | .c t d x=>some (.c t d x)
 | .nil=>some .nil
 | .nilp=>some .nilp
 | .rf id p=>match Ab r id p with
  | .arr _ t d xs=>some (.c (.sl t) (d+1) xs)
  |_=>none
 |_=>none
def ME(r:List Aa):List Cl->Option (List Cl)
 | []=>some []
 |y::l=>match Zs r y with
  |some z=>match ME r l with
   |some m=>some (z::m)
   |none=>none
  |none=>none
theorem PS{id:Nat}{q:AR}: ∀ {l:List Cl},Cl.rf id q∈l->(id,q)∈CD l
 | [],h=>by grind
 |z::l,h=>by
  rcases List.mem_cons.1 h with h|h
  ·subst h;exact List.mem_cons_self ..
  ·have:=PS h
   cases z<;>first|trivial|exact mCM _ this
theorem I2{r:List Aa}{y:Cl}: ∀ {l l1:List Cl},ME r l=some l1->y∈l->∃z,Zs r y=some z
 | [],_,_,h=>by grind
 |z::l,l1,hl,h=>by
  unfold ME at hl;split at hl
  case h_2=>grind
  split at hl
  case h_2=>grind
  rename_i l2 hl2;rcases List.mem_cons.1 h with h|h
  ·grind
  ·exact I2 hl2 h
theorem Zo{m id:Nat}{p:AR}{n:Nat}{vs σ:List V}:tkL (m+1) (V.rs id p 0 n::vs) σ=(match sub p (σ.getD id .dead)with
   | .nd true true sz n' f=>if 0=0/\n=n' then .nd true true sz n' f::tkL m (vs.map λv=>AK σ.length [] (rrV id p σ.length v)) (σ.set id (upd p (σ.getD id .dead) .dead)++ [.dead])else .dead::tkL m vs σ
   |_=>.dead::tkL m vs σ):=rfl
theorem tkL_v(r:List Aa): ∀ (l l':List Cl) (m:Nat) (σ:List V),l.length<=m->l.all Cl.plain=true->ME r l=some l'->NU (CD l)=true->
  (∀id p,(id,p)∈CD l->sub p (σ.getD id .dead)=(Ab r id p).v/\id<σ.length)->tkL m (l.map (Cl.v r)) σ=l'.map Cl.v0:=by
 intro l
 induction l with
 |nil=>intro l' m σ _ _ h _ _;cases h;cases m<;>rfl
 |cons y l ih=>
  intro l' m σ hm hp h hd hσ;cases m with
  |zero=>simp at hm
  |succ m=>
   simp only [List.length_cons]at hm;rw [List.all_cons,bAE]at hp;unfold ME at h;split at h
   case h_2=>cases h
   rename_i z hz;split at h
   case h_2=>cases h
   rename_i l1 hl1;cases h
   have plainly: ∀v:V,y.v r=v->v=z.v0->CD (y::l)=CD l->(∀vs,tkL (m+1) (v::vs) σ=v::tkL m vs σ)->tkL (m+1) ((y::l).map (Cl.v r)) σ=(z::l1).map Cl.v0:=by
    intro v hv hvz hrf htk;rw [List.map_cons,List.map_cons,hv,htk,<-hvz]
    congr 1
    exact ih l1 m σ (by omega) hp.2 hl1 (by rw [hrf]at hd;exact hd) λid p hm=>hσ id p (by rw [hrf];exact hm)
   cases y with
   |c t d x=>
    cases hz;cases t<;>first|exact plainly _ rfl rfl rfl (λ_=>rfl)|cases hp.1
   |nil=>cases hz;exact plainly _ rfl rfl rfl λ_=>rfl
   |nilp=>cases hz;exact plainly _ rfl rfl rfl λ_=>rfl
   |nilf=>cases hz
   |rf id p=>
    unfold Zs at hz;simp only at hz;split at hz
    case h_2=>cases hz
    rename_i ro t d xs hn;cases hz;have hd':((CD l).all (Qa (id,p))&&NU (CD l))=true:=hd;rw [bAE]at hd';obtain⟨hs,hid⟩:=hσ id p (List.mem_cons_self ..);rw [hn]at hs;have hs:sub p (σ.getD id .dead)= .nd true true t.w xs.length λi k=>(tyV t d (xs.getD i t.dflt)).getD k .dead:=hs
    rw [List.map_cons];show tkL (m+1) (V.rs id p 0 (Ab r id p).len::l.map (Cl.v r)) σ=_;rw [hn];show tkL (m+1) (V.rs id p 0 xs.length::l.map (Cl.v r)) σ=_
    have e:tkL (m+1) (V.rs id p 0 xs.length::l.map (Cl.v r)) σ=(V.nd true true t.w xs.length λi k=>(tyV t d (xs.getD i t.dflt)).getD k .dead)::
      tkL m ((l.map (Cl.v r)).map λv=>AK σ.length [] (rrV id p σ.length v)) (σ.set id (upd p (σ.getD id .dead) .dead)++ [.dead]):=by
     rw [Zo,hs];exact if_pos ⟨rfl,rfl⟩
    rw [e,List.map_cons]
    congr 1
    -- the rest is as it was
    have hsame:(l.map (Cl.v r)).map (λv=>AK σ.length [] (rrV id p σ.length v))=l.map (Cl.v r):=by
     rw [List.map_map];refine List.map_congr_left λy hy=>?_
     show AK σ.length [] (rrV id p σ.length (y.v r))=y.v r;cases y with
     |c t d x=>cases t<;>first|rfl|exact(congrArg (AK σ.length []) ((CL id p σ.length).osl (d:=d))).trans ((Ba σ.length []).osl (d:=d))|exact(congrArg (AK σ.length []) ((CL id p σ.length).clo (d:=d))).trans ((Ba σ.length []).clo (d:=d))
     |dead=>rfl
     |nil=>rfl
     |nilp=>rfl
     |nilf=>rfl
     |rf id' q=>
      have hmem:(id',q)∈CD l:=PS hy;have hdv:=aET.1 hd'.1 _ hmem;have hlt:=(hσ id' q (mCM _ hmem)).2
      have hn1: ¬ (id'=id/\AW p q=true):=by
       rintro ⟨h1,h2⟩
       unfold Qa at hdv;simp only [h1,Nat.beq_refl,Bool.not_true,Bool.false_or]at hdv;rw [(Qb (x:=.dead) hdv .dead).2]at h2;cases h2
      show AK σ.length [] (rrV id p σ.length (.rs id' q 0 (Ab r id' q).len))=_;simp only [rrV,if_neg hn1,AK];rw [if_neg (by rintro ⟨h,_⟩;omega)]
      rfl
     |rs id' q a b=>obtain⟨z,hz⟩:=I2 hl1 hy;cases hz
     |rp id' q a b=>obtain⟨z,hz⟩:=I2 hl1 hy;cases hz
    rw [hsame];refine ih l1 m _ (by omega) hp.2 hl1 hd'.2 λid' q hmem=>?_
    obtain⟨h1,h2⟩:=hσ id' q (mCM _ hmem);have hdv:=aET.1 hd'.1 _ hmem;refine⟨?_,by simp;omega⟩
    have hlt:id'<(σ.set id (upd p (σ.getD id .dead) .dead)).length:=by simpa using h2
    rw [Aw hlt];by_cases hii:id=id'
    ·subst hii
     rw [Af hid,<-h1];unfold Qa at hdv;simp only [Nat.beq_refl,Bool.not_true,Bool.false_or]at hdv;exact(Qb hdv _).1
    ·rw [Ad hii,h1]
   |dead=>cases hz
   |rs=>cases hz
   |rp=>cases hz
def Zr(r:List Aa):List Cl->Option (List Cl)
 | [.rp id [] 0 0]=>match r.getD id .dead with
  | .obj false l=>match DR l with
   |some ⟨t,x⟩=>bif l.any Cl.own then none else some [.c (.ptr t) 1 x]
   |none=>none
  |_=>none
 |l=>ME r l
theorem Zq{m:List Cl}(hm:Zr s.r l=some m)(h3:l.all Cl.plain=true)(hd:NU (CD l)=true):tkL (l.map (Cl.v s.r)).length (l.map (Cl.v s.r)) s.den.σ=m.map Cl.v0:=by
 unfold Zr at hm;split at hm
 ·rename_i id
  split at hm
  case h_2=>cases hm
  rename_i l hr;split at hm
  case h_2=>cases hm
  rename_i t x hf;cases hb:l.any Cl.own with
  |true=>rw [hb]at hm;cases hm
  |false=>
  rw [hb]at hm;cases hm;have e1:=Du _ _ hf
  have e2:(l.map Cl.v0).map frz=l.map Cl.v0:=by
   rw [List.map_map];refine List.map_congr_left λc hc=>Yc ?_
   have:=List.any_eq_false.1 hb c hc;simpa using this
  have e3:tyV t 0 x=l.map Cl.v0:=e1.trans e2
  have hσ:s.den.σ.getD id .dead=A7 true (l.map Cl.v0):=by
   show(s.r.map Aa.v).getD id .dead=_;rw [An,hr];rfl
  show(match sub [] (s.den.σ.getD id .dead)with
   | .nd false true sz n f=>if 0=0/\0=0 then V.nd false true sz n f:: []else [.dead]
   |_=>[.dead])= [A7 (decide (0<1)) (tyV t 0 x)]
  rw [hσ,e3];rfl
 ·have hlt: ∀id p,(id,p)∈CD l->Ab s.r id p≠.dead:=by
   intro id p
   have key: ∀ (l l':List Cl),ME s.r l=some l'->(id,p)∈CD l->Ab s.r id p≠.dead:=by
    intro l
    induction l with
    |nil=>intro l' _ h;cases h
    |cons y l ih=>
     intro l' hl hm;unfold ME at hl;split at hl
     case h_2=>cases hl
     rename_i z1 hz1;split at hl
     case h_2=>cases hl
     rename_i l2 hl2;cases y with
     |rf id' q=>
      rcases List.mem_cons.1 hm with h|h
      ·cases h
       intro hx
       have hz1:(match Ab s.r id p with
        | .arr _ t d xs=>some (Cl.c (.sl t) (d+1) xs)
        |_=>none)=some z1:=hz1
       rw [hx]at hz1;cases hz1
      ·exact ih l2 hl2 h
     |_=>exact ih l2 hl2 hm
   exact key _ _ hm
  refine tkL_v s.r l m (l.map (Cl.v s.r)).length s.den.σ (by simp) h3 hm hd λid p hmem=>?_
  have hne:=hlt id p hmem;refine⟨AP hne,?_⟩;show id<(s.r.map Aa.v).length;rw [List.length_map];rcases Nat.lt_or_ge id s.r.length with h|h
  ·exact h
  ·exfalso
   apply hne;unfold Ab;rw [gDE,List.getElem?_eq_none h];exact Dv p
def retV1(Θ:Tab)(s:St):ResultVar->Option Sl
 | .tmp t=>some (s.t t)
 | .cell a t=>match Vc s (Θ.look t) (s.ev (.tmp a))with
  |some (.ok y)=>some y
  |_=>none
def XI(Θ:Tab)(s:St):List ResultVar->Option (List Sl)
 | []=>some []
 |v::l=>match retV1 Θ s v with
  |some y=>match XI Θ s l with
   |some m=>some (y::m)
   |none=>none
  |none=>none
def cellsOf:List Sl->Option (List (Bool×List Cl))
 | []=>some []
 |y::l=>match y with
  | .one c=>match(Sl.one c).cells,cellsOf l with
   |some m,some n=>some ((false,m)::n)
   |_,_=>none
  | .agg c=>match(Sl.agg c).cells,cellsOf l with
   |some m,some n=>some ((true,m)::n)
   |_,_=>none
  |_=>none
def VZ(t:Ty)(d:Nat)(l:List Cl):Option t.T:=HZ t d (l.map (fit d))
theorem VY{t:Ty}{d:Nat}{x:t.T}(h:VZ t d l=some x)(r:List Aa):CO (l.map (Cl.v r)) (tyV t d x)/\l.map (Cl.v r)=l.map Cl.v0:=by
 have:=CS h r
 have e1:(l.map (fit d)).map (Cl.v r)=l.map (Cl.v r):=by
  rw [List.map_map];exact List.map_congr_left λc _=>(Aaq d r c).1
 have e2:(l.map (fit d)).map Cl.v0=l.map Cl.v0:=by
  rw [List.map_map];exact List.map_congr_left λc _=>(Aaq d r c).2
 grind
def KE(b:Bool)(p:Bool×Nat×Ty)(l:List Cl):Option p.2.2.T:=bif b|| !isP p then VZ p.2.2 p.2.1 l else match l with
 | [.nilp]=>some p.2.2.dflt
 |_=>none
def PK(b:Bool):(rs:List (Bool×Nat×Ty))->List (Bool×List Cl)->List Cl->Option (RT rs).T
 | [],[],[]=>some ()
 | [p],[q],l=>bif p.1==q.1&&(p.1||p.2.2.one)&&Nat.beq l.length q.2.length then KE b p l else none
 |p::p'::rs,q::q'::qs,l=>bif p.1==q.1&&(p.1||p.2.2.one)&&Nat.ble q.2.length l.length then(match KE b p (l.take q.2.length)with
  |some x=>match PK b (p'::rs) (q'::qs) (l.drop q.2.length)with
   |some z=>some (x,z)
   |none=>none
  |none=>none)else none
 |_,_,_=>none
def retS(b:Bool)(Θ:Tab)(rv:List ResultVar)(rs:List (Bool×Nat×Ty))(s:St):Option (RT rs).T:=match XI Θ s rv with
 |some ys=>match cellsOf ys with
  |some ls=>match Zr s.r (ls.flatMap (·.2))with
   |some m=>bif NU (CD (ls.flatMap (·.2)))then PK b rs ls m else none
   |none=>none
  |none=>none
 |none=>none
def retK(Θ:Tab)(rv:List ResultVar)(rs:List (Bool×Nat×Ty)):Exit->St->Option (RT rs).T
 | .normal,s=>retS true Θ rv rs s
 | .ret,s=>retS true Θ rv rs s
 |_,_=>none
def pS(b:Bool)(t:Ty)(x:t.T):Sl:=bif b then .agg (Am t 0 x)else .one (.c t 0 x)
def argS:(l:List (Bool×Ty))->(PT l).T->List Sl
 | [],_=>[]
 | [p],x=>[pS p.1 p.2 x]
 |p::q::l,x=>pS p.1 p.2 x.1::argS (q::l) x.2
def Ot(l:List (Bool×Ty))(x:(PT l).T):St:=⟨λi=>(argS l x).getD i (.one .dead),[]⟩
noncomputable def tfun(E:Cb)(body:Code)(rv:List ResultVar)(S:Sig)(x:(PT S.ps).T):Option (RT S.rs).T:=texec E body (Ot S.ps x) (retK E.Θ rv S.rs)
theorem NX{s:St}: ∀ (ys:List Sl) (ls:List (Bool×List Cl)),cellsOf ys=some ls->(ys.map (Sl.v s.r)).all Bo=true/\(ys.map (Sl.v s.r)).flatMap Go.Ve.cellsV=(ls.flatMap (·.2)).map (Cl.v s.r)/\(ls.flatMap (·.2)).all Cl.plain=true/\ls.length=ys.length
 | [],ls,h=>by cases h;exact⟨rfl,rfl,rfl,rfl⟩
 |y::ys,ls,h=>by
  have go: ∀ (b:Bool) (m:List Cl) (n:List (Bool×List Cl)),y.cells=some m->cellsOf ys=some n->ls=(b,m)::n->((y::ys).map (Sl.v s.r)).all Bo=true/\((y::ys).map (Sl.v s.r)).flatMap Go.Ve.cellsV=(ls.flatMap (·.2)).map (Cl.v s.r)/\(ls.flatMap (·.2)).all Cl.plain=true/\ls.length=(y::ys).length:=by
   intro b m n hm hn e;subst e;obtain⟨h1,h2,h3⟩:=Cw (r:=s.r) hm;obtain⟨g1,g2,g3,g4⟩:=NX ys n hn;refine⟨by rw [List.map_cons,List.all_cons,h1,g1];rfl,?_,?_,by simp [g4]⟩
   ·grind
   ·rw [List.flatMap_cons,List.all_append,h3,g3];rfl
  unfold cellsOf at h;split at h
  ·split at h
   ·rename_i m n hm hn
    cases h;exact go _ _ _ hm hn rfl
   ·cases h
  ·split at h
   ·rename_i m n hm hn
    cases h;exact go _ _ _ hm hn rfl
   ·cases h
  ·cases h
theorem Dw{s:St}: ∀ (ys:List Sl) (ls:List (Bool×List Cl)),cellsOf ys=some ls->∀k,k<ls.length->((ls.getD k (false,[])).1=true/\(∃l,(ys.getD k (.one .dead)).v s.r=Ac l/\l.length=(ls.getD k (false,[])).2.length))\/((ls.getD k (false,[])).1=false/\(∀t n f,(ys.getD k (.one .dead)).v s.r≠.many t n f)/\(ls.getD k (false,[])).2.length=1)
 | [],ls,h,k,hk=>by cases h;simp at hk
 |y::ys,ls,h,k,hk=>by
  unfold cellsOf at h;split at h
  ·rename_i c
   split at h
   ·rename_i m n hm hn
    cases h;cases k with
    |zero=>
     right;refine⟨rfl,?_,?_⟩
     ·have hm:(bif c.plain then some [c]else none)=some m:=hm
      cases hb:c.plain with
      |false=>rw [hb]at hm;cases hm
      |true=>
       show ∀t n f,c.v s.r≠.many t n f;cases c with
       |c t d x=>cases t<;>first|(cases hb;done)|(intro _ _ _ h;cases h)
       |_=>intro _ _ _ h;cases h
     ·have hm:(bif c.plain then some [c]else none)=some m:=hm
      cases hb:c.plain with
      |false=>rw [hb]at hm;cases hm
      |true=>rw [hb]at hm;cases hm;rfl
    |succ k=>exact Dw ys n hn k (by simpa using hk)
   ·cases h
  ·rename_i c
   split at h
   ·rename_i m n hm hn
    cases h;cases k with
    |zero=>
     left;refine⟨rfl,c.map (Cl.v s.r),rfl,?_⟩;have hm:(bif c.all Cl.plain then some c else none)=some m:=hm;cases hb:c.all Cl.plain with
     |false=>rw [hb]at hm;cases hm
     |true=>rw [hb]at hm;cases hm;simp
    |succ k=>exact Dw ys n hn k (by simpa using hk)
   ·cases h
  ·cases h
theorem XQ(b:Bool): ∀ (rs:List (Bool×Nat×Ty)) (ls:List (Bool×List Cl)) (l:List Cl) (z:(RT rs).T) (vl:List V),PK b rs ls l=some z->vl.length=ls.length->
  (∀k,k<ls.length->((ls.getD k (false,[])).1=true/\(∃m,vl.getD k .dead=Ac m/\m.length=(ls.getD k (false,[])).2.length))\/((ls.getD k (false,[])).1=false/\(∀t n f,vl.getD k .dead≠.many t n f)/\(ls.getD k (false,[])).2.length=1))->
  CO (Be vl (l.map Cl.v0)) (QU b rs z):=by
 -- one result
 have one: ∀ (p:Bool×Nat×Ty) (q:Bool×List Cl) (l:List Cl) (x:p.2.2.T) (v:V) (vs:List V) (rest:List V),p.1=q.1->(p.1=true\/p.2.2.one=true)->l.length=q.2.length->KE b p l=some x->
   ((q.1=true/\(∃m,v=Ac m/\m.length=q.2.length))\/(q.1=false/\(∀t n f,v≠.many t n f)/\q.2.length=1))->∃v',Be (v::vs) (l.map Cl.v0++rest)=v'::Be vs rest/\Sub v' (W7 b p x):=by
  intro p q l x v vs rest h1 h2 hl hx hk;unfold KE at hx;unfold W7;cases hbp:b|| !isP p with
  |false=>
   rw [hbp]at hx;simp only [cond_false]at hx;split at hx
   case h_2=>cases hx
   have hp1:p.1=false:=by
    rw [Bool.or_eq_false_iff,Bool.not_eq_false']at hbp;have:=hbp.2;unfold isP at this;rw [bAE,Bool.not_eq_true']at this;exact this.1
   rcases hk with⟨hq,_⟩|⟨_,hv,_⟩
   ·rw [<-h1,hp1]at hq;cases hq
   ·refine⟨.c (.pointer none),?_,Sub.refl _⟩
    show Be (v::vs) (.c (.pointer none)::rest)=_;cases v with
    |many t n f=>exact absurd rfl (hv _ _ _)
    |_=>rfl
  |true=>
  rw [hbp]at hx;simp only [cond_true]at hx⊢;obtain⟨g1,g2⟩:=VY hx [];rw [g2]at g1;rcases hk with⟨hq,m,rfl,hm⟩|⟨hq,hv,hq1⟩
  ·refine⟨Ac (l.map Cl.v0),?_,?_⟩
   ·show Ac ((l.map Cl.v0++rest).take m.length)::Be vs ((l.map Cl.v0++rest).drop m.length)=_
    have e:(l.map Cl.v0).length=m.length:=by rw [List.length_map,hl,hm]
    rw [<-e,List.take_left,List.drop_left]
   ·rw [h1,hq];exact g1.mk
  ·have hp:p.1=false:=by rw [h1,hq]
   have ho:p.2.2.one=true:=by rcases h2 with h|h;rw [hp]at h;cases h;exact h
   rw [Bv ho]at g1
   match l,hl with
   | [y],_=>
    refine⟨y.v0,?_,?_⟩
    ·show Be (v::vs) (y.v0::rest)=_
     cases v with
     |many t n f=>exact absurd rfl (hv _ _ _)
     |_=>rfl
    ·rw [hp];exact g1.1
   | [],hl=>rw [hq1]at hl;cases hl
   |_::_::_,hl=>rw [hq1]at hl;simp at hl
 intro rs
 induction rs with
 |nil=>
  intro ls l z vl h hl hk;cases ls with
  |nil=>cases l with
   |nil=>cases vl with
    |nil=>trivial
    |cons=>simp at hl
   |cons=>cases h
  |cons=>cases h
 |cons p rs ih=>
  intro ls l z vl h hl hk;cases rs with
  |nil=>
   cases ls with
   |nil=>cases h
   |cons q ls=>cases ls with
    |cons=>cases h
    |nil=>
     have h:(bif p.1==q.1&&(p.1||p.2.2.one)&&Nat.beq l.length q.2.length then KE b p l else none)=some z:=h;obtain⟨hb,h⟩:=A1 h;simp only [bAE,beq_iff_eq,Bool.or_eq_true]at hb;cases vl with
     |nil=>simp at hl
     |cons v vl=>cases vl with
      |cons=>simp at hl
      |nil=>
       obtain⟨v',e,hs⟩:=one p q l z v [] [] hb.1.1 hb.1.2 (bqE hb.2) h (hk 0 (by simp))
       rw [List.append_nil]at e;rw [e];exact⟨hs,trivial⟩
  |cons p' rs=>
   cases ls with
   |nil=>cases h
   |cons q ls=>cases ls with
    |nil=>cases h
    |cons q' ls=>
     have h:(bif p.1==q.1&&(p.1||p.2.2.one)&&Nat.ble q.2.length l.length then(match KE b p (l.take q.2.length)with
      |some x=>match PK b (p'::rs) (q'::ls) (l.drop q.2.length)with
       |some z=>some (x,z)
       |none=>none
      |none=>none)else none:Option (RT (p::p'::rs)).T)=some z:=h
     cases hb:(p.1==q.1&&(p.1||p.2.2.one)&&Nat.ble q.2.length l.length)with
     |false=>rw [hb]at h;cases h
     |true=>
      rw [hb]at h;simp only [bAE,beq_iff_eq,Bool.or_eq_true]at hb;simp only [cond_true]at h;split at h
      case h_2=>cases h
      rename_i x hx;split at h
      case h_2=>cases h
      rename_i z2 hz2;cases h;cases vl with
      |nil=>simp at hl
      |cons v vl=>
       have hlen:(l.take q.2.length).length=q.2.length:=by
        have:=blE hb.2;rw [List.length_take];omega
       obtain⟨v',e,hs⟩:=one p q (l.take q.2.length) x v vl ((l.drop q.2.length).map Cl.v0) hb.1.1 hb.1.2 hlen hx (hk 0 (by simp))
       rw [<-List.map_append,List.take_append_drop]at e;rw [e];refine⟨hs,ih (q'::ls) (l.drop q.2.length) z2 vl hz2 (by simpa using hl) λk hk'=>?_⟩
       have:=hk (k+1) (by simpa using hk')
       simpa using this
theorem Vy{P:Program}{Θ:Tab}(hΘ:Θ.OK P){s:St}{K:List V->Prop}: ∀ (rv:List ResultVar) (ys:List Sl) (acc:List V),XI Θ s rv=some ys->K (acc++ys.map (Sl.v s.r))->VC P s.den rv acc K
 | [],ys,acc,h,hK=>by cases h;show K acc;grind
 |v::rv,ys,acc,h,hK=>by
  unfold XI at h;split at h
  case h_2=>cases h
  rename_i y hy;split at h
  case h_2=>cases h
  rename_i m hm;cases h;have hrest:VC P s.den rv (acc++ [y.v s.r]) K:=Vy hΘ rv m _ hm (by grind)
  cases v with
  |tmp t=>
   cases hy;exact hrest
  |cell a t=>
   unfold retV1 at hy;simp at hy;split at hy
   ·rename_i y' hl
    cases hy;exact Kx (Pq hΘ hl trivial) λr0 hr=>by rw [hr];exact hrest
   grind
theorem YL{Θ:Tab}(hΘ:Θ.OK P){rv:List ResultVar}{rs:List (Bool×Nat×Ty)}{b:Bool}{z:(RT rs).T}(h:retS b Θ rv rs s=some z):VC P s.den rv [] (Yx s.den.σ (Jl b rs z)):=by
 unfold retS at h;split at h
 case h_2=>cases h
 rename_i ys hys;split at h
 case h_2=>cases h
 rename_i ls hls;split at h
 case h_2=>cases h
 rename_i m hm;obtain⟨hd,h⟩:=A1 h;refine Vy hΘ rv ys [] hys ?_;rw [List.nil_append];obtain⟨h1,h2,h3,h4⟩:=NX (s:=s) ys ls hls;refine⟨h1,?_⟩;rw [h2];have htk:=Zq hm h3 hd
 ·rw [htk]
  have hsub:=XQ b rs ls m z (ys.map (Sl.v s.r)) h (by rw [List.length_map,h4]) λk hk=>?_
  ·-- KD
   have hp: ∀ {a b:List V},CO a b->Sub (Np a) (Np b):=by
    intro a b hab
    match a,b,hab with
    | [],[],_=>exact Sub.refl _
    | [x],[y],hab=>exact hab.1
    |x::x'::a,y::y'::b,hab=>
     show Sub (C8 _) (C8 _);unfold C8;rw [hab.len];exact⟨_,rfl,λk _=>hab.getD k⟩
    | [],_::_,hab=>exact hab.elim
    |_::_,[],hab=>exact hab.elim
    | [_],_::_::_,hab=>exact hab.2.elim
    |_::_::_,[_],hab=>exact hab.2.elim
   exact hp hsub
  ·have:=Dw (s:=s) ys ls hls k hk
   simp_all
theorem pS_v(b:Bool)(t:Ty)(x:t.T):(pS b t x).v []=vOf b t 0 x:=by
 cases b with
 |true=>show Ac ((Am t 0 x).map (Cl.v []))=_;rw [Cl.v_c];rfl
 |false=>rfl
theorem Ze: ∀ (l:List (Bool×Ty)) (x:(PT l).T),(argS l x).map (Sl.v [])=Cf l x
 | [],x=>rfl
 | [p],x=>congrArg (λv=>[v]) (pS_v p.1 p.2 x)
 |p::q::l,x=>by
  show(pS p.1 p.2 x.1).v []::(argS (q::l) x.2).map (Sl.v [])=vOf p.1 p.2 0 x.1::Cf (q::l) x.2;rw [Ze (q::l) x.2,pS_v]
theorem N4: ∀ (l:List (Bool×Ty)) (x:(PT l).T),(Cf l x).length=l.length
 | [],_=>rfl
 | [_],_=>rfl
 |_::q::l,x=>by show(Cf (q::l) x.2).length+1=_;rw [N4];rfl
theorem YC{E:Cb}{f:FuncId}{fn:Func}{body:Code}{S:Sig}(hE:EOK P E.toEnv)(hm:P.follows .mixedOrders=true)(hf:P.funcs[f]? =some fn)(hb:fn.body=some body)(hn:max S.ps.length fn.ntmps=E.h.n):
  FT P f S (tfun E body fn.results.toList S):=by
 intro x y hxy;refine FC_of hf hb (by rw [N4];omega) λ_ C a w Q hCm hs hQ=>?_
 have e:(Ot S.ps x).den=⟨λi=>(Cf S.ps x).getD i .dead,[]⟩:=by
  show Ms.mk (λi=>((argS S.ps x).getD i (.one .dead)).v []) []=_
  congr 1
  funext i
  rw [<-Ze S.ps x,Ay (a:=.one .dead) rfl]
 rw [<-e]at hs;rw [<-Jk]at hQ;refine Xo hE hm (by omega) body (Ot S.ps x) _ y Q a w hs hxy λe s' a' w' _ hs' hz=>?_
 cases e with
 |normal=>exact hQ .normal s'.den a' w' (YL hE.Θ hz) hs'
 |ret=>exact hQ .ret s'.den a' w' (YL hE.Θ hz) hs'
 |exit id=>trivial
 |goto l=>trivial
 |panic ch=>trivial
 |outgrown=>trivial
end Go.Ve


namespace Go.Ve
variable{P:Program}
noncomputable def tfn(E:Cb)(fn:Func)(S:Sig)(x:(PT S.ps).T):Option (RT S.rs).T:=match fn.body with
 |some b=>tfun E b fn.results.toList S x
 |none=>none
theorem Bz{E:Cb}{f:FuncId}{fn:Func}{S:Sig}(hΘ:Tab.OK P E.Θ)(hΓ:N9 P E.Γ)(hW: ∀e∈E.W,e.OK P)(hN: ∀e∈E.N,e.OK P)(hm:P.follows .mixedOrders=true)(hf:P.funcs[f]? =some fn)(hn:max S.ps.length fn.ntmps=E.h.n){g:(PT S.ps).T->Option (RT S.rs).T}(hg:tfn E fn S=g)(hU: ∀e∈E.U,e.OK P:=by exact Aas):FT P f S g:=by
 subst hg;intro x y hxy;unfold tfn at hxy;cases hb:fn.body with
 |none=>grind
 |some b=>
  rw [hb]at hxy;exact YC ⟨hΘ,hΓ,hW,hN,hU⟩ hm hf hb hn x y hxy
theorem AN: ∀e∈([]:List EnN),e.OK P:=by simp
theorem AM:N9 P []:=λ_ h=>by grind
theorem Ar{e:En}{l:List En}(h1:Aj P e.f=true)(h2:FT P e.f e.S e.g)(hl:N9 P l):N9 P (e::l):=by
 intro x hx;rcases List.mem_cons.1 hx with rfl|hx
 ·trivial
 ·exact hl x hx
end Go.Ve

