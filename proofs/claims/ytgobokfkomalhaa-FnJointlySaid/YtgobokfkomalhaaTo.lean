/- The typed machine over code: what a body computes, as a function; that it does. -/
import Derived.Test.YtgobokfkomalhaaTl
namespace Go.Ve
variable{a b:Code}{C:Ctx}{cs:List Dy}{L Rh:List Nat}{d i:Nat}{P:Program}{s:St}{u:Ty}{R X:Type}
inductive LO(X R:Type) where
 |next (x:X)
 |brk (id:Nat) (x:X)
 |ret (r:R)
inductive Cw{X R:Type}(f:X->Option (LO X R)):X->LO X R->Nat->Prop where
 |brk {x y:X} {id:Nat}:f x=some (.brk id y)->Cw f x (.brk id y) 0
 |ret {x:X} {r:R}:f x=some (.ret r)->Cw f x (.ret r) 0
 |step {x y:X} {o:LO X R} {n:Nat}:f x=some (.next y)->Cw f y o n->Cw f x o (n+1)
noncomputable def Aq{X R:Type}(f:X->Option (LO X R))(x:X):Option (LO X R):=@dite _ (∃o n,Cw f x o n) (Classical.propDecidable _) (λh=>some (Classical.choose h)) λ_=>none
theorem Cw.det{f:X->Option (LO X R)}: ∀ {x:X} {o o':LO X R} {n n':Nat},Cw f x o n->Cw f x o' n'->o=o'/\n=n':=by
 intro x o o' n n' h
 induction h generalizing o' n' with
 |brk h=>intro h';cases h' with
  |brk h'=>grind
  |ret h'=>grind
  |step h' _=>grind
 |ret h=>intro h';cases h' with
  |brk h'=>grind
  |ret h'=>grind
  |step h' _=>grind
 |step h _ ih=>intro h';cases h' with
  |brk h'=>grind
  |ret h'=>grind
  |step h' h2=>grind
theorem Cx{f:X->Option (LO X R)}{x:X}{o:LO X R}:Aq f x=some o↔ ∃n,Cw f x o n:=by
 unfold Aq;split
 ·rename_i h
  obtain⟨n,hn⟩:=Classical.choose_spec h;constructor
  ·grind
  ·rintro ⟨n',h'⟩;rw [(hn.det h').1]
 grind
theorem BK(f:X->Option (LO X R))(x:X):Aq f x=(f x).bind λo=>match o with
  | .next y=>Aq f y
  | .brk id y=>some (.brk id y)
  | .ret r=>some (.ret r):=by
 cases hf:f x with
 |none=>
  show Aq f x=none;cases h:Aq f x with
  |none=>rfl
  |some o=>
   obtain⟨n,hn⟩:=Cx.1 h;cases hn with
   |brk h'=>rw [hf]at h';cases h'
   |ret h'=>rw [hf]at h';cases h'
   |step h' _=>rw [hf]at h';cases h'
 |some o=>
  cases o with
  |brk id y=>exact Cx.2 ⟨0,.brk hf⟩
  |ret r=>exact Cx.2 ⟨0,.ret hf⟩
  |next y=>
   show Aq f x=Aq f y;cases h:Aq f y with
   |some o=>obtain⟨n,hn⟩:=Cx.1 h;exact Cx.2 ⟨n+1,.step hf hn⟩
   |none=>
    cases h2:Aq f x with
    |none=>rfl
    |some o=>
     obtain⟨n,hn⟩:=Cx.1 h2;cases hn with
     |brk h'=>rw [hf]at h';cases h'
     |ret h'=>rw [hf]at h';cases h'
     |step h' h3=>rw [hf]at h';cases h';rw [Cx.2 ⟨_,h3⟩]at h;cases h
def Bo:List Ty->Ty
 | []=>.unit
 | [t]=>t
 |t::u::l=>.pair t (Bo (u::l))
def WG(t:Ty)(y:Dy):Option t.T:=if h:y.t=t then some (h▸y.x)else none
def toX:(tys:List Ty)->List Dy->Option (Bo tys).T
 | [],[]=>some ()
 | [t],[y]=>WG t y
 |t::u::l,y::ys=>match WG t y with
  |some x=>match toX (u::l) ys with
   |some z=>some (x,z)
   |none=>none
  |none=>none
 |_,_=>none
def ofX:(tys:List Ty)->(Bo tys).T->List Dy
 | [],_=>[]
 | [t],x=>[⟨t,x⟩]
 |t::u::l,x=>⟨t,x.1⟩::ofX (u::l) x.2
theorem WF{t:Ty}{y:Dy}{x:t.T}(h:WG t y=some x):(⟨t,x⟩:Dy)=y:=by
 unfold WG at h;split at h
 ·rename_i ht;subst ht;cases h;rfl
 grind
theorem Qi: ∀ (tys:List Ty) (cs:List Dy) (x:(Bo tys).T),toX tys cs=some x->ofX tys x=cs
 | [],[],x,h=>rfl
 | [t],[y],x,h=>by show [⟨t,x⟩]= [y];rw [WF h]
 |t::u::l,y::ys,x,h=>by
  have h:(match WG t y with
   |some x=>match toX (u::l) ys with
    |some z=>some (x,z)
    |none=>none
   |none=>none:Option (Bo (t::u::l)).T)=some x:=h
  split at h
  case h_2=>grind
  rename_i x1 h1;split at h
  case h_2=>grind
  rename_i z h2;cases h;show⟨t,x1⟩::ofX (u::l) z=_;rw [WF h1,Qi (u::l) ys z h2]
 | [],_::_,_,h=>by cases h
 | [_],[],_,h=>by cases h
 | [_],_::_::_,_,h=>by cases h
 |_::_::_,[],_,h=>by cases h
structure A9 extends Env where
 lp:List (Nat×List Nat×List Nat)
 dn:List (Nat×Nat)
variable{E:A9}
def BA:Code->Nat
 | .region id _ _=>id
 | .seq a b=>match a with
  | .skip=>BA b
  | .label _=>BA b
  |a=>BA a
 | .block _ b=>BA b
 | .loop b=>BA b
 | .scope b=>BA b
 |_=>0
def AU:Code->List Oper
 | .region _ ops _=>ops.toList
 | .seq a b=>AU a++AU b
 | .cond _ a b=>AU a++AU b
 | .block _ b=>AU b
 | .loop b=>AU b
 | .scope b=>AU b
 |_=>[]
def NV:Code->List Nat
 | .exit id=>[id]
 | .seq a b=>NV a++NV b
 | .cond _ a b=>NV a++NV b
 | .block id b=>(NV b).filter λi=>!Nat.beq i id
 | .loop b=>NV b
 |_=>[]
def lookN{α:Type}(d:α):List (Nat×α)->Nat->α
 | [],_=>d
 |(i,x)::l,k=>bif Nat.beq i k then x else lookN d l k
def clId:Cl->List Nat
 | .rf id _=>[id]
 | .rp id _ _ _=>[id]
 | .rs id _ _ _=>[id]
 |_=>[]
def slId:Sl->List Nat
 | .one c=>clId c
 |_=>[]
def condN(s:St)(c:Nat):Bool:=bif Nat.ble 2000000 c then(match slId (s.t (c-2000000))with
 | []=>true
 |_=>false)else bif Nat.ble 1000000 c then(slId (s.t ((c-1000000)/1000))).any λi=>Nat.beq i ((c-1000000) % 1000)else true
def QW(s:St):List (Nat×List Nat×List Nat)->Nat->List Nat×List Nat
 | [],_=>([],[])
 |(i,L,R)::l,k=>bif Nat.beq i k then(bif R.all (condN s)then(L,R.filter λc=>!Nat.ble 1000000 c)else QW s l k)else QW s l k
def Wh(o:Oper):Bool:=match o.op with
 | .store _ _ _=>true
 |_=>false
def Aad(o:Oper):Bool:=match o.op with
 | .build _ _=>true
 | .buildSlice _ _ _=>true
 |_=>Wh o
def Wi(E:Env)(o:Oper):Bool:=Wh o||match V4 E o with
 |some (.app _ _ _ _)=>true
 |some (.cw _ _ _)=>true
 |_=>false
def UM:List Oper->Nat
 | []=>0
 |o::l=>match o.op with
  | .assign _=>UM l+1
  |_=>0
def isNew(ops:Array Oper)(y:Nat):Bool:=ops.toList.any λo=>match o.op,o.dst with
 | .alloc _,some d=>Nat.beq d y
 |_,_=>false
def isMade(ops:Array Oper)(y:Nat):Bool:=ops.toList.any λo=>match o.dst with
 |some d=>Nat.beq d y&&(match o.op with
  | .buildSlice _ _ _=>true
  | .makeSlice _ _ _=>true
  |op=>(WN op).isSome)
 |none=>false
def isLate(E:Env)(ops:Array Oper)(o:Oper):Bool:=match o.op with
 | .store _ (.tmp y) _=>!isNew ops y
 | .store _ _ _=>true
 |_=>match WN o.op with
  |some (_,.tmp y,_)=>!isMade ops y
  |some _=>true
  |none=>Wi E o
def headD(E:Env)(ops:Array Oper):Nat:=bif ops.toList.any (Wi E)then ops.toList.findIdx (λo=>Aad o||Wi E o)else
 bif H8 ops (ops.size-UM ops.toList.reverse)then ops.size-UM ops.toList.reverse else ops.size
def headN(E:A9)(id:Nat)(ops:Array Oper):Nat:=lookN (bif H8 ops (headD E.toEnv ops)then headD E.toEnv ops else ops.toList.findIdx (isLate E.toEnv ops)) E.dn id
def brkK{R:Type}(K:Exit->St->Option R):List Nat->Nat->St->Option R
 | [],_,_=>none
 |i::l,id,s=>nif id i (K (.exit i) s) (brkK K l id s)
@[reducible] def B4 {X R:Type} (o:Option R):Option (LO X R):=o.map .ret
@[reducible] def LO.fin {X R:Type} (f:Nat->X->Option R):LO X R->Option R
 | .brk id x=>f id x
 | .ret r=>some r
 | .next _=>none
def Q5{R:Type}(L Rh:List Nat)(s:St)(keep:Nat)(tys:List Ty)(K:Exit->St->Option R)(e:Exit)(s':St):Option (LO (Bo tys).T R):=match e with
 | .normal=>match X2 L Rh s s' keep with
  |some cs=>match toX tys cs with
   |some x=>some (.next x)
   |none=>none
  |none=>none
 | .exit id=>match X2 L Rh s s' keep with
  |some cs=>match toX tys cs with
   |some x=>some (.brk id x)
   |none=>none
  |none=>none
 | .ret=>B4 (K .ret s')
 |_=>none
def Ya{R:Type}(b:Code)(L Rh:List Nat)(s:St)(tys:List Ty)(K:Exit->St->Option R):LO (Bo tys).T R->Option R:=
 LO.fin λid x=>brkK K (NV b).eraseDups id (Bi false (AU b) L Rh s (ofX tys x))
def HH(b:List Oper)(L Rh:List Nat)(s:St):Bool:=L.all (λd=>!(As b d&&(s.t d).stay))&&Rh.all λi=>!(s.r.getD i .dead).isRo
def LV:List Nat->St->St
 | [],s=>s
 |id::l,s=>match s.r.getD id .dead with
  | .arr false (.sl u) d xs=>bif Nat.beq u.dep 0 then LV l ⟨s.t,s.r.set id (.arr false (.osl u) d (NG xs))⟩else LV l s
  |_=>LV l s
def ozOf:List (Nat×Nat)->Nat->List Nat
 | [],_=>[]
 |(a,b)::l,k=>bif Nat.beq a (k+1000000)then b::ozOf l k else ozOf l k
theorem JD: ∀ (u:Ty) (d:Nat) (x:u.T),u.dep=0->∀c∈AD u d x,∀ro,c.node ro= .dead
 | .int _,_,_,_,c,h,_=>by rw [List.mem_singleton.1 h];rfl
 | .bool,_,_,_,c,h,_=>by rw [List.mem_singleton.1 h];rfl
 | .str,_,_,_,c,h,_=>by rw [List.mem_singleton.1 h];rfl
 | .unit,_,_,_,c,h,_=>by cases h
 | .pair a b,d,x,hd,c,h,ro=>by
  simp [Ty.dep]at hd;rcases List.mem_append.1 h with h|h
  ·exact JD a d x.1 (by omega) c h ro
  ·exact JD b d x.2 (by omega) c h ro
 | .sl _,_,_,h,_,_,_=>by trivial
 | .ptr _,_,_,h,_,_,_=>by trivial
 | .clo _ _,_,_,h,_,_,_=>by trivial
 | .osl _,_,_,h,_,_,_=>by trivial
theorem PM{α:Type}(xs:List (List α))(i:Nat):(NG xs).getD i (some [])=some (xs.getD i []):=by
 unfold NG;simp
theorem ZX{xs:List (List u.T)}:(Ae.arr false (.osl u) d (NG xs)).v=(Ae.arr false (.sl u) d xs).v:=by
 show arr true 1 (tyV (.osl u) d) (some []) (NG xs)=arr true 1 (tyV (.sl u) d) [] xs;unfold arr;have hl:(NG xs).length=xs.length:=by simp [NG]
 congr 1
 funext i k
 rw [PM];rfl
theorem VT{xs:List (List u.T)}(hu:u.dep=0): ∀q:A1,((Ae.arr false (.osl u) d (NG xs)).at' q).len=((Ae.arr false (.sl u) d xs).at' q).len
 | []=>by show(NG xs).length=xs.length;simp [NG]
 |(i,0)::q=>by
  show(((Cl.c (.osl u) d ((NG xs).getD i (some []))).node false).at' q).len=(((Cl.c (.sl u) d (xs.getD i [])).node false).at' q).len;rw [PM];cases d with
  |zero=>rfl
  |succ d=>
   cases q with
   |nil=>rfl
   |cons a q=>
    obtain⟨i2,k2⟩:=a;show(((([]:List Cl).getD k2 .dead).node false).at' q).len=((((AD u d ((xs.getD i []).getD i2 u.dflt)).getD k2 .dead).node false).at' q).len
    have e:((AD u d ((xs.getD i []).getD i2 u.dflt)).getD k2 .dead).node false= .dead:=by
     by_cases hk:k2<(AD u d ((xs.getD i []).getD i2 u.dflt)).length
     ·rw [gDE,gEE hk]
      exact JD u d _ hu _ (List.getElem_mem hk) _
     ·rw [gDE,List.getElem?_eq_none (by omega)];rfl
    rw [e];rfl
 |(i,k+1)::q=>by
  rfl
theorem Cl.v_lens{r r':List Ae}(h: ∀id q,(Ag r' id q).len=(Ag r id q).len)(y:Cl):y.v r'=y.v r:=by
 cases y with
 |rf id p=>show V.rs id p 0 _=V.rs id p 0 _;grind
 |_=>rfl
theorem Sl.v_lens{r r':List Ae}(h: ∀id q,(Ag r' id q).len=(Ag r id q).len)(y:Sl):y.v r'=y.v r:=by
 have e:=funext λc=>Cl.v_lens h c
 cases y with
 |one c=>exact Cl.v_lens h c
 |new l=>rfl
 |agg l=>show Aj _=Aj _;grind
 |tup l=>show Dx _=Dx _;grind
 |pk t l=>show pkL t _=pkL t _;grind
theorem HE: ∀ (l:List Nat) (s:St),(LV l s).den=s.den/\∀g,Kp g s (LV l s)
 | [],s=>⟨rfl,λg=>Kp.refl _ _⟩
 |id::l,s=>by
  unfold LV;split
  ·rename_i u d xs hr
   cases hb:Nat.beq u.dep 0 with
   |false=>exact HE l s
   |true=>
    have hu:=bqE hb;obtain⟨h1,h2⟩:=HE l ⟨s.t,s.r.set id (.arr false (.osl u) d (NG xs))⟩;have hid:id<s.r.length:=by
     grind
    have hn: ∀id' q,(Ag (s.r.set id (.arr false (.osl u) d (NG xs))) id' q).len=(Ag s.r id' q).len:=by
     intro id' q;by_cases he:id'=id
     ·subst he
      unfold Ag;have e:(s.r.set id' (.arr false (.osl u) d (NG xs))).getD id' .dead= .arr false (.osl u) d (NG xs):=by simp [hid]
      rw [e,hr];exact VT hu q
     ·rw [BJ he]
    have hσ:(s.r.set id (.arr false (.osl u) d (NG xs))).map Ae.v=s.r.map Ae.v:=by
     rw [List.map_set,ZX,<-hr];apply List.ext_getElem?
     grind
    refine⟨?_,λg=>?_⟩
    ·show(LV l _).den=_
     rw [h1];unfold St.den;simp only [hσ]
     congr 1
     funext i
     exact Sl.v_lens hn _
    ·refine Kp.trans (s1:=⟨s.t,s.r.set id (.arr false (.osl u) d (NG xs))⟩) (g1:=g) (g2:=g) ⟨λi _ _=>rfl,λid' _ hro=>?_,by simp⟩ (h2 g) (λ_ h=>h) λ_ h=>h
     have hne:id≠id':=by
      rintro rfl
      rw [hr]at hro;cases hro
     simp only [gDE,List.getElem?_set_ne hne]
  ·exact HE l s
noncomputable def B3(H:Code->{R:Type}->St->(Exit->St->Option R)->Option R)(E:A9):Code->{R:Type}->St->(Exit->St->Option R)->Option R
 | .skip,_,s,K=>K .normal s
 | .region _ ops false,_,s,K=>tops E.toEnv ops (W5 ops.size ops.toList) s (K .normal)
 | .region id ops true,_,s,K=>Zn E.toEnv (headN E id ops) ops s (K .normal)
 | .seq a b,_,s,K=>B3 H E a s λe s'=>match e with
  | .normal=>B3 H E b s' K
  | .exit id=>K (.exit id) s'
  | .ret=>K .ret s'
  | .goto l=>K (.goto l) s'
  |_=>none
 | .cond c x y,_,s,K=>match s.ev c with
  |some (.one (.c .bool _ b))=>Oa b (B3 H E x s K) (B3 H E y s K)
  |_=>none
 | .block id b,_,s,K=>B3 H E b s λe s'=>match e with
  | .exit i=>bif Nat.beq i id then K .normal s' else K (.exit i) s'
  | .normal=>K .normal s'
  | .ret=>K .ret s'
  | .goto l=>K (.goto l) s'
  |_=>none
 | .loop b,R,s0,K=>match LV (ozOf E.dn (BA b)) s0 with
  |s=>match QW s E.lp (BA b)with
  |(L,Rh)=>bif HH (AU b) L Rh s then(match X2 L Rh s s E.h.keep with
   |some cs=>match toX (cs.map (·.t)) cs with
    |some x=>Il (Aq (λx=>B3 H E b (Bi true (AU b) L Rh s (ofX (cs.map (·.t)) x)) (Q5 L Rh s E.h.keep (cs.map (·.t)) K)) x) (Ya b L Rh s (cs.map (·.t)) K)
    |none=>none
   |none=>none)else none
 | .exit id,_,s,K=>K (.exit id) s
 | .label _,_,s,K=>K .normal s
 | .goto l,_,s,K=>K (.goto l) s
 | .ret,_,s,K=>K .ret s
 | .scope c,_,s,K=>H c s K
 |_,_,_,_=>none
def Bt:Code->List Nat
 | .seq a b=>Bt a++Bt b
 | .label l=>[l]
 |_=>[]
def BU:Code->Nat->Option Code
 | .seq a b,l=>match a with
  | .label l'=>bif Nat.beq l' l then some b else BU b l
  |_=>BU b l
 |_,_=>none
def NF:List Nat->Bool
 | []=>true
 |a::l=>!l.contains a&&NF l
theorem NE: ∀ {l:List Nat},NF l=true->l.Nodup
 | [],_=>List.nodup_nil
 |a::l,h=>by
  have h:(!l.contains a&&NF l)=true:=h;rw [bAE,Bool.not_eq_true']at h;exact List.nodup_cons.2 ⟨λhm=>by grind,NE h.2⟩
def OV:Code->Bool
 | .label _=>true
 |_=>false
def JX:Code->Bool
 | .seq a b=>(OV a||(Bt a).isEmpty)&&JX b
 |c=>(Bt c).isEmpty
@[reducible] def LO.fin1 {X R:Type}:LO X R->Option R
 | .ret r=>some r
 |_=>none
def Ud{R:Type}(L Rh:List Nat)(s:St)(keep:Nat)(tys:List Ty)(l:Nat)(s':St):Option (LO (Nat×(Bo tys).T) R):=match X2 L Rh s s' keep with
 |some cs=>match toX tys cs with
  |some x=>some (.next (l,x))
  |none=>none
 |none=>none
def Aaj{R:Type}(L Rh:List Nat)(s:St)(keep:Nat)(tys:List Ty)(K:Exit->St->Option R)(e:Exit)(s':St):Option (LO (Nat×(Bo tys).T) R):=match e with
 | .goto l=>Ud L Rh s keep tys l s'
 | .normal=>B4 (K .normal s')
 | .exit id=>B4 (K (.exit id) s')
 | .ret=>B4 (K .ret s')
 |_=>none
noncomputable def Hr(E:A9):Code->{R:Type}->St->(Exit->St->Option R)->(Nat->St->Option R)->Option R
 | .seq a b,_,s,K,KL=>match a with
  | .label l=>KL l s
  |a=>B3 (λ_ _ _ _=>none) E a s λe s'=>match e with
   | .normal=>Hr E b s' K KL
   | .exit id=>K (.exit id) s'
   | .ret=>K .ret s'
   | .goto l=>K (.goto l) s'
   |_=>none
 |c,_,s,K,_=>B3 (λ_ _ _ _=>none) E c s K
noncomputable def IB(E:A9)(c:Code)(ops:List Oper)(L Rh:List Nat)(s:St)(tys:List Ty){R:Type}(K:Exit->St->Option R)(l:Nat)(x:(Bo tys).T):List Nat->Option (LO (Nat×(Bo tys).T) R)
 | []=>none
 |i::ls=>nif l i (match BU c i with
  |some rest=>Hr E rest (Bi true ops L Rh s (ofX tys x)) (Aaj L Rh s E.h.keep tys K) (Ud L Rh s E.h.keep tys)
  |none=>none) (IB E c ops L Rh s tys K l x ls)
def YM{R:Type}(K:Exit->St->Option R)(e:Exit)(s:St):Option R:=match e with
 | .goto _=>none
 |e=>K e s
noncomputable def Vp(E:A9)(c:Code){R:Type}(s:St)(K:Exit->St->Option R):Option R:=bif JX c&&NF (Bt c)then Hr E c s (YM K) λl s1=>match BU c l with
  |some c1=>match QW s1 E.lp (BA c)with
   |(L,Rh)=>bif HH (AU c1) L Rh s1 then(match X2 L Rh s1 s1 E.h.keep with
    |some cs=>match toX (cs.map (·.t)) cs with
     |some x=>Il (Aq (λy=>IB E c (AU c1) L Rh s1 (cs.map (·.t)) K y.1 y.2 (Bt c)) (l,x)) LO.fin1
     |none=>none
    |none=>none)else none
  |none=>none else none
noncomputable def Zm(E:A9):Code->{R:Type}->St->(Exit->St->Option R)->Option R:=B3 (Vp E) E
theorem JP{t0:Nat->Sl}: ∀ (L:List Nat) (cs:List Dy) (t:Nat->Sl) (i:Nat),L.contains i=false->(Kg t0 L cs t).1 i=t i
 | [],cs,t,i,_=>rfl
 |d::L,cs,t,i,h=>by
  rw [List.contains_cons,Bool.or_eq_false_iff]at h;unfold Kg;rw [JP L _ _ i h.2];have hne:i≠d:=by
   grind
  exact A3 hne
theorem HR{r0:List Ae}: ∀ (Rh:List Nat) (cs:List Dy) (r:List Ae) (i:Nat),Rh.contains i=false->(Hj r0 Rh cs r).getD i .dead=r.getD i .dead
 | [],cs,r,i,_=>rfl
 |d::L,cs,r,i,h=>by
  rw [List.contains_cons,Bool.or_eq_false_iff]at h;unfold Hj;rw [HR L _ _ i h.2]
  grind
theorem HQ{r0:List Ae}: ∀ (Rh:List Nat) (cs:List Dy) (r:List Ae),(Hj r0 Rh cs r).length=r.length
 | [],cs,r=>rfl
 |d::L,cs,r=>by unfold Hj;rw [HQ L,List.length_set]
theorem OX{ro:Bool}{b:List Oper}(h:HH b L Rh s=true):Kp (As b) s (Bi ro b L Rh s cs):=by
 unfold HH at h;rw [bAE]at h;refine⟨λi hi hs=>?_,λid hl hid=>?_,?_⟩
 ·have hc:L.contains i=false:=by
   grind
  show(Kg s.t L cs _).1 i=_;rw [JP L _ _ i hc];show(bif As b i&&(s.t i).stay then s.t i else _)=_;rw [hi,hs];rfl
 ·have hc:Rh.contains id=false:=by
   grind
  show(Hj s.r Rh _ (bif ro then s.r.map BI else s.r)).getD id .dead=_;rw [HR Rh _ _ id hc];cases ro with
  |false=>rfl
  |true=>
   show(s.r.map BI).getD id .dead=_
   have e:(s.r.map BI).getD id .dead=BI (s.r.getD id .dead):=by
    simp only [gDE,List.getElem?_map];cases s.r[id]? <;>rfl
   rw [e];generalize s.r.getD id .dead=x at hid;cases x with
   |dead=>rfl
   |obj ro l=>have hid:ro=true:=hid;subst hid;rfl
   |arr ro t d xs=>have hid:ro=true:=hid;subst hid;rfl
   |opt ro t d xs=>have hid:ro=true:=hid;subst hid;rfl
 ·show s.r.length<=(Hj s.r Rh _ (bif ro then s.r.map BI else s.r)).length
  rw [HQ];cases ro<;>simp
theorem KP{b:List Oper}{s':St}(hk:Kp (As b) (Bi true b L Rh s cs) s'):
  (∀i,L.contains i=false->As b i=true->(s.t i).stay=true->s'.t i=s.t i)/\
  (∀id,id<s.r.length->Rh.contains id=false->(s'.r.getD id .dead).v=(s.r.getD id .dead).v/\(s'.r.getD id .dead).len=(s.r.getD id .dead).len)/\
  (∀id,id<s.r.length->Rh.contains id=false->∀q:A1,((s'.r.getD id .dead).at' q).len=((s.r.getD id .dead).at' q).len):=by
 have hR: ∀id,id<s.r.length->Rh.contains id=false->s'.r.getD id .dead=BI (s.r.getD id .dead):=λid hl hc=>by
  have e:(Bi true b L Rh s cs).r.getD id .dead=BI (s.r.getD id .dead):=by
   show(Hj s.r Rh _ (s.r.map BI)).getD id .dead=_;rw [HR Rh _ _ id hc]
   grind
  have hro:(BI (s.r.getD id .dead)).isRo=true:=by cases s.r.getD id .dead<;>rfl
  have hlen:(Bi true b L Rh s cs).r.length=s.r.length:=by
   show(Hj s.r Rh _ (s.r.map BI)).length=_;rw [HQ,List.length_map]
  rw [hk.r id (by rw [hlen];exact hl) (by rw [e];exact hro),e]
 refine⟨λi hc hi hs=>?_,λid hl hc=>?_,λid hl hc q=>by rw [hR id hl hc];exact Yi q _ _ (Jm _)⟩
 ·have e:(Bi true b L Rh s cs).t i=s.t i:=by
   show(Kg s.t L cs _).1 i=_;rw [JP L _ _ i hc]
   grind
  rw [hk.t i hi (by rw [e];exact hs),e]
 ·have e:(Bi true b L Rh s cs).r.getD id .dead=BI (s.r.getD id .dead):=by
   show(Hj s.r Rh _ (s.r.map BI)).getD id .dead=_;rw [HR Rh _ _ id hc]
   grind
  have hro:(BI (s.r.getD id .dead)).isRo=true:=by cases s.r.getD id .dead<;>rfl
  have hlen:(Bi true b L Rh s cs).r.length=s.r.length:=by
   show(Hj s.r Rh _ (s.r.map BI)).length=_;rw [HQ,List.length_map]
  rw [hk.r id (by rw [hlen];exact hl) (by rw [e];exact hro),e]
  exact Lz _
theorem N8{R:Type}{K:Exit->St->Option R}{z:R}{s:St}: ∀ (l:List Nat) (id:Nat),brkK K l id s=some z->K (.exit id) s=some z
 | [],id,h=>by cases h
 |i::l,id,h=>by
  have h:(if id=i then K (.exit i) s else brkK K l id s)=some z:=h
  split at h
  ·grind
  ·exact N8 l id h
theorem Z2{P:Program}{H:Code->{R:Type}->St->(Exit->St->Option R)->Option R}(hkeep:C.m<=E.h.keep){b:Code}
  (ih: ∀ {R:Type} (s:St) (K:Exit->St->Option R) (z:R) (Q:Exit->Act->World->Prop) (a:Act) (w:World),AX C E.h.n s.den a w->B3 H E b s K=some z->(∀e s' a' w',Kp (As (AU b)) s s'->AX C E.h.n s'.den a' w'->K e s'=some z->Q e a' w')->b.wp P Q a w)
  {R:Type} {s:St} {K:Exit->St->Option R} {z:R} {Q:Exit->Act->World->Prop} {a:Act} {w:World} (hs:AX C E.h.n s.den a w) {L Rh:List Nat} (hok:HH (AU b) L Rh s=true) {tys:List Ty} {cs:List Dy} (hcs:X2 L Rh s s E.h.keep=some cs) {x0:(Bo tys).T} (hx0':ofX tys x0=cs)
  (h:(Aq (λx=>B3 H E b (Bi true (AU b) L Rh s (ofX tys x)) (Q5 L Rh s E.h.keep tys K)) x0).bind (Ya b L Rh s tys K)=some z)
  (hQ: ∀e s' a' w',Kp (As (AU b)) s s'->AX C E.h.n s'.den a' w'->K e s'=some z->Q e a' w'):(Code.loop b).wp P Q a w:=by
 obtain⟨hd0,hdd0,D0,ρ0,F0,hcr0⟩:=id hs;have hml:C.m<=s.r.length:=by have:=hcr0.ml;simpa [St.den]using this
 let body:(Bo tys).T->Option (LO (Bo tys).T R):=λx=>B3 H E b (Bi true (AU b) L Rh s (ofX tys x)) (Q5 L Rh s E.h.keep tys K)
 have h:(Aq body x0).bind (Ya b L Rh s tys K)=some z:=h;cases hl:Aq body x0 with
 |none=>rw [hl]at h;cases h
 |some o0=>
  rw [hl]at h;have h:Ya b L Rh s tys K o0=some z:=h;obtain⟨n0,hn0⟩:=Cx.1 hl
  have h0:AX C E.h.n (Bi true (AU b) L Rh s (ofX tys x0)).den a w:=by
   rw [hx0'];exact JO hs hcs hkeep hml (λ_ _ _ _=>rfl) (λ_ _ _=>⟨rfl,rfl⟩) λ_ _ _ _=>rfl
  let I':Act->World->Prop:=λa w=>∃x n o,Cw body x o n/\Ya b L Rh s tys K o=some z/\AX C E.h.n (Bi true (AU b) L Rh s (ofX tys x)).den a w
  have hmin: ∀ (a:Act) (w:World),∃k,I' a w->(∃x n o,Cw body x o n/\Ya b L Rh s tys K o=some z/\AX C E.h.n (Bi true (AU b) L Rh s (ofX tys x)).den a w/\n=k)/\∀x n o,Cw body x o n->Ya b L Rh s tys K o=some z->AX C E.h.n (Bi true (AU b) L Rh s (ofX tys x)).den a w->k<=n:=by
   intro a w;by_cases hI:I' a w
   ·obtain⟨x,n,o,g1,g2,g3⟩:=hI
    obtain⟨k,hk,hlt⟩:=OU (p:=λk=>∃x n o,Cw body x o n/\Ya b L Rh s tys K o=some z/\AX C E.h.n (Bi true (AU b) L Rh s (ofX tys x)).den a w/\n=k) ⟨n,x,n,o,g1,g2,g3,rfl⟩
    exact⟨k,λ_=>⟨hk,λx n o g1 g2 g3=>Nat.le_of_not_lt λhl=>hlt n hl ⟨x,n,o,g1,g2,g3,rfl⟩⟩⟩
   ·exact⟨0,λh=>absurd h hI⟩
  let μ':Act->World->Nat:=λa w=>Classical.choose (hmin a w)
  have hμ':=λa w hI=>Classical.choose_spec (hmin a w) hI
  refine wp_loop I' μ' ⟨x0,n0,o0,hn0,h,h0⟩ λa w hI=>?_
  obtain⟨⟨x,n,o,g1,g2,g3,hn⟩,_⟩:=hμ' a w hI;have hn:n=μ' a w:=hn
  -- the round's own answer
  have hround: ∃lo,body x=some lo/\((∃y n',lo= .next y/\Cw body y o n'/\n=n'+1)\/(lo=o)):=by
   cases g1 with
   |brk h'=>exact⟨_,h',.inr rfl⟩
   |ret h'=>exact⟨_,h',.inr rfl⟩
   |step h' h2=>exact⟨_,h',.inl ⟨_,_,rfl,h2,rfl⟩⟩
  obtain⟨lo,hlo,hcase⟩:=hround;refine ih _ _ lo _ a w g3 hlo λe s' a' w' hk hs' hz=>?_
  obtain⟨f1,f2,f3⟩:=KP hk;have hk0:Kp (As (AU b)) s s':=Kp.trans (OX hok) hk (λ_ h=>h) λ_ h=>h
  cases e with
  |normal=>
   unfold Q5 at hz;simp only at hz;split at hz
   case h_2=>cases hz
   rename_i cs2 hcs2;split at hz
   case h_2=>cases hz
   rename_i x2 hx2;cases hz;rcases hcase with⟨y,n',he,hl2,hnn⟩|he
   ·cases he
    have hs2:AX C E.h.n (Bi true (AU b) L Rh s (ofX tys x2)).den a' w':=by
     rw [Qi _ _ _ hx2];exact JO hs' hcs2 hkeep hml f1 f2 f3
    have hI2:I' a' w':=⟨x2,n',o,hl2,g2,hs2⟩;refine⟨hI2,?_⟩;have:=(hμ' a' w' hI2).2 x2 n' o hl2 g2 hs2;have:μ' a' w'<=n':=this;omega
   ·subst he
    cases g2
  |exit id=>
   unfold Q5 at hz;simp only at hz;split at hz
   case h_2=>cases hz
   rename_i cs2 hcs2;split at hz
   case h_2=>cases hz
   rename_i x2 hx2;cases hz;rcases hcase with⟨y,n',he,_⟩|he
   ·cases he
   ·subst he
    have g2:brkK K (NV b).eraseDups id (Bi false (AU b) L Rh s (ofX tys x2))=some z:=g2
    have hs2:AX C E.h.n (Bi false (AU b) L Rh s (ofX tys x2)).den a' w':=by
     rw [Qi _ _ _ hx2];exact JO hs' hcs2 hkeep hml f1 f2 f3
    exact hQ _ _ _ _ (OX hok) hs2 (N8 _ _ g2)
  |ret=>
   have hz:(K .ret s').map LO.ret=some lo:=hz;cases hkr:K .ret s' with
   |none=>rw [hkr]at hz;cases hz
   |some r=>
    rw [hkr]at hz;cases hz;rcases hcase with⟨y,n',he,_⟩|he
    ·cases he
    ·subst he
     cases g2;exact hQ _ _ _ _ hk0 hs' hkr
  |goto l=>cases hz
  |panic ch=>cases hz
  |outgrown=>cases hz
def J8(P:Program)(E:A9)(C:Ctx)(H:Code->{R:Type}->St->(Exit->St->Option R)->Option R):Prop:=
 ∀ (c:Code) {R:Type} (s:St) (K:Exit->St->Option R) (z:R) (Q:Exit->Act->World->Prop) (a:Act) (w:World),AX C E.h.n s.den a w->H c s K=some z->
  (∀e s' a' w',Kp (As (AU c)) s s'->AX C E.h.n s'.den a' w'->K e s'=some z->Q e a' w')->(Code.scope c).wp P Q a w
theorem MI{H:Code->{R:Type}->St->(Exit->St->Option R)->Option R}(hE:EOK P E.toEnv)(hm:P.follows .mixedOrders=true)(hkeep:C.m<=E.h.keep)(hH:J8 P E C H): ∀ (c:Code) {R:Type} (s:St) (K:Exit->St->Option R) (z:R) (Q:Exit->Act->World->Prop) (a:Act) (w:World),AX C E.h.n s.den a w->B3 H E c s K=some z->
  (∀e s' a' w',Kp (As (AU c)) s s'->AX C E.h.n s'.den a' w'->K e s'=some z->Q e a' w')->c.wp P Q a w:=by
 intro c
 induction c with
 |skip=>intro R s K z Q a w hs h hQ;exact wp_skip (hQ _ _ _ _ (Kp.refl _ _) hs h)
 |region id ops draw=>
  intro R s K z Q a w hs h hQ;cases draw with
  |false=>
   have h:tops E.toEnv ops (W5 ops.size ops.toList) s (K .normal)=some z:=h;refine wp_region_list ?_;have:=UO hE (ops:=ops) (Q:=Q) _ s a w hs h λs' a' w' hk hs' hz=>hQ .normal s' a' w' (by rw [Cn]at hk;exact hk) hs' hz
   rw [Cn]at this;exact this
  |true=>exact Xj hE hm hs h λs' a' w' hk hs' hz=>hQ .normal s' a' w' hk hs' hz
 |seq x y ihx ihy=>
  intro R s K z Q a w hs h hQ
  have hsp: ∀i,As (AU (.seq x y)) i=true->As (AU x) i=true/\As (AU y) i=true:=λi hi=>by
   have hi:As (AU x++AU y) i=true:=hi;rw [DJ,bAE]at hi;exact hi
  refine wp_seq (ihx s _ z _ a w hs h λe s' a' w' hk hs' hz=>?_)
  have hk':Kp (As (AU (.seq x y))) s s':=hk.weak λi hi=>(hsp i hi).1
  cases e with
  |normal=>exact ihy s' K z Q a' w' hs' hz λe2 s2 a2 w2 hk2 hs2 hz2=>hQ e2 s2 a2 w2 (hk.trans hk2 (λi hi=>(hsp i hi).1) λi hi=>(hsp i hi).2) hs2 hz2
  |exit id=>exact hQ _ _ _ _ hk' hs' hz
  |ret=>exact hQ _ _ _ _ hk' hs' hz
  |goto l=>exact hQ _ _ _ _ hk' hs' hz
  |panic ch=>cases hz
  |outgrown=>cases hz
 |cond c x y ihx ihy=>
  intro R s K z Q a w hs h hQ
  have hsp: ∀i,As (AU (.cond c x y)) i=true->As (AU x) i=true/\As (AU y) i=true:=λi hi=>by
   have hi:As (AU x++AU y) i=true:=hi;rw [DJ,bAE]at hi;exact hi
  have h:(match s.ev c with
   |some (.one (.c .bool _ b))=>bif b then B3 H E x s K else B3 H E y s K
   |_=>none)=some z:=h
  split at h
  ·rename_i d b hb
   obtain⟨hdd,D,ρ,F,hcr⟩:=hs.2;have h1:=BY hcr hdd c;rw [Bc hb]at h1;refine wp_cond (t:=b) h1.1 ?_;cases b with
   |true=>exact ihx s K z Q a w hs h λe s' a' w' hk=>hQ e s' a' w' (hk.weak λi hi=>(hsp i hi).1)
   |false=>exact ihy s K z Q a w hs h λe s' a' w' hk=>hQ e s' a' w' (hk.weak λi hi=>(hsp i hi).2)
  ·cases h
 |block id b ih=>
  intro R s K z Q a w hs h hQ;refine wp_block (ih s _ z _ a w hs h λe s' a' w' hk hs' hz=>?_)
  cases e with
  |exit id'=>
   simp only [Exit.inBlock];have hz:(bif Nat.beq id' id then K .normal s' else K (.exit id') s')=some z:=hz;by_cases he:id'=id
   ·subst he
    rw [Nat.beq_refl]at hz;rw [if_pos rfl];exact hQ _ _ _ _ hk hs' hz
   ·rw [BD he]at hz
    rw [if_neg he];exact hQ _ _ _ _ hk hs' hz
  |normal=>exact hQ _ _ _ _ hk hs' hz
  |ret=>exact hQ _ _ _ _ hk hs' hz
  |goto l=>exact hQ _ _ _ _ hk hs' hz
  |panic ch=>cases hz
  |outgrown=>cases hz
 |loop b ih=>
  intro R s0 K z Q a w hs h hQ;unfold B3 at h;obtain⟨s,hso⟩: ∃s,s=LV (ozOf E.dn (BA b)) s0:=⟨_,rfl⟩;rw [<-hso]at h;obtain⟨hden,hkp⟩:=HE (ozOf E.dn (BA b)) s0;rw [<-hso]at hden hkp;rw [<-hden]at hs;have hQ: ∀e s' a' w',Kp (As (AU (.loop b))) s s'->AX C E.h.n s'.den a' w'->K e s'=some z->Q e a' w':=λe s' a' w' hk=>hQ e s' a' w' ((hkp _).trans hk (λ_ h=>h) λ_ h=>h)
  have h:(match QW s E.lp (BA b)with
   |(L,Rh)=>bif HH (AU b) L Rh s then(match X2 L Rh s s E.h.keep with
    |some cs=>match toX (cs.map (·.t)) cs with
     |some x=>Il (Aq (λx=>B3 H E b (Bi true (AU b) L Rh s (ofX (cs.map (·.t)) x)) (Q5 L Rh s E.h.keep (cs.map (·.t)) K)) x) (Ya b L Rh s (cs.map (·.t)) K)
     |none=>none
    |none=>none)else none)=some z:=h
  split at h
  rename_i L Rh hlp;cases hok:HH (AU b) L Rh s with
  |false=>rw [hok]at h;cases h
  |true=>
   rw [hok]at h;simp only [cond_true]at h;split at h
   case h_2=>cases h
   rename_i cs hcs;split at h
   case h_2=>cases h
   rename_i x0 hx0;have hx0':=Qi _ _ _ hx0;exact Z2 hkeep ih hs hok hcs hx0' h hQ
 |exit id=>intro R s K z Q a w hs h hQ;exact wp_exit (hQ _ _ _ _ (Kp.refl _ _) hs h)
 |label l=>intro R s K z Q a w hs h hQ;exact wp_label (hQ _ _ _ _ (Kp.refl _ _) hs h)
 |ret=>intro R s K z Q a w hs h hQ;exact wp_ret (hQ _ _ _ _ (Kp.refl _ _) hs h)
 |goto l=>intro R s K z Q a w hs h hQ;exact wp_goto (hQ _ _ _ _ (Kp.refl _ _) hs h)
 |rangeFunc f ps x y _ _=>intro R s K z Q a w hs h hQ;cases h
 |scope c _=>intro R s K z Q a w hs h hQ;exact hH c s K z Q a w hs h hQ
 |refuse s=>intro R s K z Q a w hs h hQ;cases h
theorem Li{P:Program}{a:Act}{w:World}{Q:Exit->Act->World->Prop}{c:Code}(J:Nat->Act->World->Prop)(μ:Nat->Act->World->Nat)
  (first:c.wp P (λe a w=>match e with
   | .goto l=>(∃r,findLabel c l=some r)/\J l a w
   |e=>Q e a w) a w)
  (pass: ∀l r a w,findLabel c l=some r->J l a w->r.wp P (λe a' w'=>match e with
   | .goto l'=>(∃r',findLabel c l'=some r')/\J l' a' w'/\μ l' a' w'<μ l a w
   |e=>Q e a' w') a w):(Code.scope c).wp P Q a w:=by
 intro b k cs;have hg: ∀l r,findLabel c l=some r->gotoIn l (.inScope c::k)=some (.code r:: .inScope c::k):=λl r hf=>by simp [gotoIn,hf]
 have key: ∀n l r a w,findLabel c l=some r->μ l a w=n->J l a w->∃e a' w',Q e a' w'/\Arrives P (lone (b.at a (.code r:: .inScope c::k)) cs w) b k cs e a' w':=by
  intro n
  induction n using Nat.strongRecOn with
  |_ n ih=>
   intro l r a w hf hn hJ;obtain⟨e,a₁,w₁,hq,harr⟩:=pass l r a w hf hJ b (.inScope c::k) cs;cases e with
   |normal=>exact⟨.normal,a₁,w₁,hq,Steps.trans harr (.one step_inScope)⟩
   |exit id=>exact⟨.exit id,a₁,w₁,hq,λk' hk=>harr k' (by trivial)⟩
   |goto l'=>
    obtain⟨⟨r',hf'⟩,hJ',hlt⟩:=hq;obtain⟨e₂,a₂,w₂,hq₂,harr₂⟩:=ih _ (by omega) l' r' a₁ w₁ hf' rfl hJ'
    exact⟨e₂,a₂,w₂,hq₂,.of_steps (harr _ (hg l' r' hf')) harr₂⟩
   |ret=>exact⟨_,a₁,w₁,hq,harr⟩
   |panic ch=>exact⟨_,a₁,w₁,hq,harr⟩
   |outgrown=>exact⟨_,a₁,w₁,hq,harr⟩
 obtain⟨e,a₁,w₁,hq,harr⟩:=first b (.inScope c::k) cs
 cases e with
 |normal=>exact⟨.normal,a₁,w₁,hq,.head step_scope (Steps.trans harr (.one step_inScope))⟩
 |exit id=>exact⟨.exit id,a₁,w₁,hq,λk' hk=>.head step_scope (harr k' (by simp [exitTo,hk]))⟩
 |goto l'=>
  obtain⟨⟨r',hf'⟩,hJ'⟩:=hq;obtain⟨e₂,a₂,w₂,hq₂,harr₂⟩:=key _ l' r' a₁ w₁ hf' rfl hJ';exact⟨e₂,a₂,w₂,hq₂,.of_steps (.head step_scope (harr _ (hg l' r' hf'))) harr₂⟩
 |ret=>exact⟨_,a₁,w₁,hq,.of_steps (.one step_scope) harr⟩
 |panic ch=>exact⟨_,a₁,w₁,hq,.of_steps (.one step_scope) harr⟩
 |outgrown=>exact⟨_,a₁,w₁,hq,.of_steps (.one step_scope) harr⟩
theorem CZ(h: ¬∃l,a= .label l)(l:Nat):BU (.seq a b) l=BU b l:=by
 cases a<;>first|rfl|grind
theorem Qk(h: ¬∃l,a= .label l)(s:St)(K:Exit->St->Option R)(KL:Nat->St->Option R):Hr E (.seq a b) s K KL=B3 (λ_ _ _ _=>none) E a s λe s'=>match e with
   | .normal=>Hr E b s' K KL
   | .exit id=>K (.exit id) s'
   | .ret=>K .ret s'
   | .goto l=>K (.goto l) s'
   |_=>none:=by
 cases a<;>first|rfl|grind
theorem Hg: ∀ (c:Code) (l:Nat),(Bt c).isEmpty=true->findLabel c l=none
 | .seq a b,l,h=>by
  have h:(Bt a++Bt b).isEmpty=true:=h;rw [List.isEmpty_iff,List.append_eq_nil_iff]at h;have h:(Bt a).isEmpty=true/\(Bt b).isEmpty=true:=⟨by grind,by grind⟩
  unfold findLabel;rw [Hg a l h.1,Hg b l h.2]
 | .label l',l,h=>by cases h
 | .skip,_,_=>rfl
 | .region ..,_,_=>rfl
 | .cond ..,_,_=>rfl
 | .block ..,_,_=>rfl
 | .loop ..,_,_=>rfl
 | .exit ..,_,_=>rfl
 | .goto ..,_,_=>rfl
 | .ret,_,_=>rfl
 | .scope ..,_,_=>rfl
 | .rangeFunc ..,_,_=>rfl
 | .refuse ..,_,_=>rfl
theorem IW{P:Program}: ∀ (c b:Code) (l:Nat),JX c=true->BU c l=some b->∃r,findLabel c l=some r/\∀Q a w,b.wp P Q a w->r.wp P Q a w
 | .seq a b',b,l,hc,h=>by
  have hc:((OV a||(Bt a).isEmpty)&&JX b')=true:=hc;rw [bAE,Bool.or_eq_true]at hc;by_cases hl: ∃l',a= .label l'
  ·obtain⟨l',rfl⟩:=hl
   have h:(bif Nat.beq l' l then some b' else BU b' l)=some b:=h;cases he:Nat.beq l' l with
   |true=>
    rw [he]at h;have e:l'=l:=bqE he;subst e;obtain rfl:b'=b:=Option.some.inj h;exact⟨.seq .skip b',by simp [findLabel],λQ a w hw=>wp_seq (wp_skip hw)⟩
   |false=>
    rw [he]at h;obtain⟨r,h1,h2⟩:=IW b' b l hc.2 h;refine⟨r,?_,h2⟩;have e:l'≠l:=λe=>by subst e;rw [Nat.beq_refl]at he;cases he
    simp [findLabel,e,h1]
  ·rw [CZ hl]at h
   obtain⟨r,h1,h2⟩:=IW b' b l hc.2 h;refine⟨r,?_,h2⟩;have hn:findLabel a l=none:=by
    rcases hc.1 with h'|h'
    ·exfalso
     unfold OV at h'
     grind
    ·exact Hg a l h'
   unfold findLabel;rw [hn,h1]
 | .label ..,_,_,_,h=>by cases h
 | .skip,_,_,_,h=>by cases h
 | .region ..,_,_,_,h=>by cases h
 | .cond ..,_,_,_,h=>by cases h
 | .block ..,_,_,_,h=>by cases h
 | .loop ..,_,_,_,h=>by cases h
 | .exit ..,_,_,_,h=>by cases h
 | .goto ..,_,_,_,h=>by cases h
 | .ret,_,_,_,h=>by cases h
 | .scope ..,_,_,_,h=>by cases h
 | .rangeFunc ..,_,_,_,h=>by cases h
 | .refuse ..,_,_,_,h=>by cases h
def KU:Code->Option Nat
 | .seq a b=>match a with
  | .label l=>some l
  |_=>KU b
 |_=>none
theorem KT(h: ¬∃l,a= .label l):KU (.seq a b)=KU b:=by
 cases a<;>first|rfl|grind
theorem Ox{r:Code}{l:Nat}: ∀ {c:Code},KU c=some l->BU c l=some b->BU c i=some r->(i=l/\r=b)\/BU b i=some r:=by
 intro c
 induction c with
 |seq a b' iha ihb=>
  intro h1 h2 h3;by_cases hl: ∃l',a= .label l'
  ·obtain⟨l',rfl⟩:=hl
   cases h1;have h2:(bif Nat.beq l l then some b' else BU b' l)=some b:=h2;rw [Nat.beq_refl]at h2;obtain rfl:b'=b:=Option.some.inj h2;have h3:(bif Nat.beq l i then some b' else BU b' i)=some r:=h3;cases he:Nat.beq l i with
   |true=>simp_all
   |false=>grind
  ·have e1:=KT (b:=b') hl
   have e2:=CZ (b:=b') hl
   grind
 |_=>intro h1;trivial
theorem Jt: ∀ (c b:Code) (l:Nat),BU c l=some b->As (AU c) i=true->As (AU b) i=true:=by
 intro c
 induction c with
 |seq a b' iha ihb=>
  intro b l h hi;have hi:As (AU a++AU b') i=true:=hi;rw [DJ,bAE]at hi;by_cases hl: ∃l',a= .label l'
  ·obtain⟨l',rfl⟩:=hl
   have h:(bif Nat.beq l' l then some b' else BU b' l)=some b:=h
   grind
  ·rw [CZ hl]at h;grind
 |_=>intro b l h;cases h
theorem J8.none{P:Program}{E:A9}{C:Ctx}:J8 P E C (λ_ _ _ _=>.none):=λ_ _ _ _ _ _ _ _ _ h=>by grind
theorem MH(hE:EOK P E.toEnv)(hm:P.follows .mixedOrders=true)(hkeep:C.m<=E.h.keep): ∀ (c:Code) {R:Type} (s:St) (K:Exit->St->Option R) (KL:Nat->St->Option R) (z:R) (Q:Exit->Act->World->Prop) (a:Act) (w:World),AX C E.h.n s.den a w->Hr E c s K KL=some z->
  (∀e s' a' w',Kp (As (AU c)) s s'->AX C E.h.n s'.den a' w'->K e s'=some z->Q e a' w')->
  (∀l b s' a' w',Kp (As (AU c)) s s'->AX C E.h.n s'.den a' w'->KL l s'=some z->KU c=some l->BU c l=some b->b.wp P Q a' w')->c.wp P Q a w:=by
 have base:=MI hE hm hkeep J8.none;intro c
 induction c with
 |seq x y ihx ihy=>
  intro R s K KL z Q a w hs h hQ hL;have hsp:=λi hi=>by
   have hi:As (AU x++AU y) i=true:=hi;rw [DJ,bAE]at hi;exact hi
  by_cases hl: ∃l,x= .label l
  ·obtain⟨l,rfl⟩:=hl
   have h:KL l s=some z:=h;exact wp_seq (wp_label (hL l y s a w (Kp.refl _ _) hs h rfl (by show(bif Nat.beq l l then some y else BU y l)=_;rw [Nat.beq_refl];rfl)))
  ·have h:=(Qk hl s K KL).symm.trans h
   have e1:=KT (b:=y) hl;have e2:=CZ (b:=y) hl;refine wp_seq (base x s _ z _ a w hs h λe s' a' w' hk hs' hz=>?_)
   have hk':Kp (As (AU (.seq x y))) s s':=hk.weak λi hi=>(hsp i hi).1
   cases e with
   |normal=>
    exact ihy s' K KL z Q a' w' hs' hz (λe2 s2 a2 w2 hk2 hs2 hz2=>hQ e2 s2 a2 w2 (hk.trans hk2 (λi hi=>(hsp i hi).1) λi hi=>(hsp i hi).2) hs2 hz2)
     λl b s2 a2 w2 hk2 hs2 hz2 h1 h2=>hL l b s2 a2 w2 (hk.trans hk2 (λi hi=>(hsp i hi).1) λi hi=>(hsp i hi).2) hs2 hz2 (e1.trans h1) ((e2 l).trans h2)
   |exit id=>exact hQ _ _ _ _ hk' hs' hz
   |ret=>exact hQ _ _ _ _ hk' hs' hz
   |goto l=>exact hQ _ _ _ _ hk' hs' hz
   |panic ch=>cases hz
   |outgrown=>cases hz
 |skip=>intro R s K KL z Q a w hs h hQ _;exact base _ s K z Q a w hs h hQ
 |region=>intro R s K KL z Q a w hs h hQ _;exact base _ s K z Q a w hs h hQ
 |cond=>intro R s K KL z Q a w hs h hQ _;exact base _ s K z Q a w hs h hQ
 |block=>intro R s K KL z Q a w hs h hQ _;exact base _ s K z Q a w hs h hQ
 |loop=>intro R s K KL z Q a w hs h hQ _;exact base _ s K z Q a w hs h hQ
 |exit=>intro R s K KL z Q a w hs h hQ _;exact base _ s K z Q a w hs h hQ
 |label=>intro R s K KL z Q a w hs h hQ _;exact base _ s K z Q a w hs h hQ
 |ret=>intro R s K KL z Q a w hs h hQ _;exact base _ s K z Q a w hs h hQ
 |goto=>intro R s K KL z Q a w hs h hQ _;exact base _ s K z Q a w hs h hQ
 |rangeFunc=>intro R s K KL z Q a w hs h hQ _;exact base _ s K z Q a w hs h hQ
 |scope=>intro R s K KL z Q a w hs h hQ _;exact base _ s K z Q a w hs h hQ
 |refuse=>intro R s K KL z Q a w hs h hQ _;exact base _ s K z Q a w hs h hQ
theorem Jr{E:A9}{c:Code}{ops:List Oper}{L Rh:List Nat}{s:St}{tys:List Ty}{R:Type}{K:Exit->St->Option R}{l:Nat}{x:(Bo tys).T}{o:LO (Nat×(Bo tys).T) R}: ∀ (ls:List Nat),IB E c ops L Rh s tys K l x ls=some o->
  ∃r,BU c l=some r/\Hr E r (Bi true ops L Rh s (ofX tys x)) (Aaj L Rh s E.h.keep tys K) (Ud L Rh s E.h.keep tys)=some o
 | [],h=>by cases h
 |i::ls,h=>by
  have h:(if l=i then(match BU c i with
   |some rest=>Hr E rest (Bi true ops L Rh s (ofX tys x)) (Aaj L Rh s E.h.keep tys K) (Ud L Rh s E.h.keep tys)
   | .none=>.none)else IB E c ops L Rh s tys K l x ls)=some o:=h
  split at h
  ·grind
  ·exact Jr ls h
theorem Vu{o:Option R}{lo:LO X R}(h:B4 o=some lo): ∃z,o=some z/\lo= .ret z:=by
 cases o with
 |none=>grind
 |some z=>grind
theorem Vv: ∀ {c b:Code} {l:Nat},BU c l=some b->l∈Bt c:=by
 intro c
 induction c with
 |seq a b' iha ihb=>
  intro b l h;show l∈Bt a++Bt b';by_cases hl: ∃l',a= .label l'
  ·obtain⟨l',rfl⟩:=hl
   have h:(bif Nat.beq l' l then some b' else BU b' l)=some b:=h;cases he:Nat.beq l' l with
   |true=>rw [<-bqE he];simp [Bt]
   |false=>grind
  ·rw [CZ hl]at h;grind
 |_=>intro b l h;cases h
theorem QF: ∀ {c b r:Code} {l i:Nat},(Bt c).Nodup->BU c l=some b->BU b i=some r->BU c i=some r:=by
 intro c
 induction c with
 |seq a b' iha ihb=>
  intro b r l i hn h1 h2;have hn:(Bt a++Bt b').Nodup:=hn;rw [List.nodup_append]at hn;by_cases hl: ∃l',a= .label l'
  ·obtain⟨k,rfl⟩:=hl
   have h1:(bif Nat.beq k l then some b' else BU b' l)=some b:=h1;have hi:BU b' i=some r:=by
    grind
   have hne:=hn.2.2 k (by simp [Bt]) i (Vv hi)
   show(bif Nat.beq k i then some b' else BU b' i)=_;rw [BD hne]
   grind
  ·have e2:=CZ (b:=b') hl
   rw [e2]at h1⊢
   grind
 |_=>intro b r l i _ h;cases h
theorem Vo(hE:EOK P E.toEnv)(hm:P.follows .mixedOrders=true)(hkeep:C.m<=E.h.keep):J8 P E C (Vp E):=by
 intro c R s K z Q a w hs h hQ;unfold Vp at h;cases hch:JX c&&NF (Bt c)with
 |false=>rw [hch]at h;cases h
 |true=>
 rw [hch]at h;rw [bAE]at hch;obtain⟨hch,hnd⟩:=hch;have hnd:=NE hnd;have h:Hr E c s (YM K) _=some z:=h
 let D:Nat->Nat->Act->World->Prop:=λn l a w=>∃ (l0:Nat) (c1:Code) (L Rh:List Nat) (s1:St) (tys:List Ty) (x:(Bo tys).T),KU c=some l0/\BU c l0=some c1/\HH (AU c1) L Rh s1=true/\Kp (As (AU c)) s s1/\C.m<=s1.r.length/\
  Cw (λy:Nat×(Bo tys).T=>IB E c (AU c1) L Rh s1 tys K y.1 y.2 (Bt c)) (l,x) (.ret z) n/\AX C E.h.n (Bi true (AU c1) L Rh s1 (ofX tys x)).den a w
 have claim: ∀n l a w,D n l a w->∃b,BU c l=some b/\b.wp P (λe a' w'=>match e with
   | .goto l'=>∃n',n'<n/\D n' l' a' w'
   |e=>Q e a' w') a w:=by
  intro n
  induction n using Nat.strongRecOn with
  |_ n ih=>
  intro l a w hD;obtain⟨l0,c1,L,Rh,s1,tys,x,hf0,hr0,hok,hk1,hml,hT,hsr⟩:=hD
  have hround: ∃lo,IB E c (AU c1) L Rh s1 tys K l x (Bt c)=some lo/\((∃y n',lo= .next y/\Cw (λy:Nat×(Bo tys).T=>IB E c (AU c1) L Rh s1 tys K y.1 y.2 (Bt c)) y (.ret z) n'/\n=n'+1)\/(lo= .ret z)):=by
   cases hT with
   |ret h'=>exact⟨_,h',.inr rfl⟩
   |step h' h2=>exact⟨_,h',.inl ⟨_,_,rfl,h2,rfl⟩⟩
  obtain⟨lo,hlo,hcase⟩:=hround;obtain⟨b,hb,hex⟩:=Jr _ hlo;refine⟨b,hb,?_⟩
  have hdst: ∀i,As (AU c1) i=true->As (AU b) i=true:=λi hi=>by
   rcases Ox (c:=c) hf0 hr0 hb with⟨_,rfl⟩|h
   ·exact hi
   ·exact Jt c1 b l h hi
  have hgo: ∀ (l':Nat) (s':St) (a':Act) (w':World),Kp (As (AU b)) (Bi true (AU c1) L Rh s1 (ofX tys x)) s'->AX C E.h.n s'.den a' w'->Ud L Rh s1 E.h.keep tys l' s'=some lo->∃n',n'<n/\D n' l' a' w':=by
   intro l' s' a' w' hk hs' hx;unfold Ud at hx;split at hx
   case h_2=>cases hx
   rename_i cs2 hcs2;split at hx
   case h_2=>cases hx
   rename_i x2 hx2;cases hx;rcases hcase with⟨y,n',he,hT',hn'⟩|he
   ·cases he
    obtain⟨f1,f2,f3⟩:=KP (hk.weak hdst);refine⟨n',by omega,l0,c1,L,Rh,s1,tys,x2,hf0,hr0,hok,hk1,hml,hT',?_⟩
    rw [Qi _ _ _ hx2];exact JO hs' hcs2 hkeep hml f1 f2 f3
   ·cases he
  have hk0: ∀s',Kp (As (AU b)) (Bi true (AU c1) L Rh s1 (ofX tys x)) s'->Kp (As (AU c)) s s':=λs' hk=>
   Kp.trans hk1 (Kp.trans (OX hok) hk (g:=As (AU c)) (λi hi=>Jt c c1 l0 hr0 hi) λi hi=>Jt c b l hb hi) (λ_ h=>h) λ_ h=>h
  refine MH hE hm hkeep b _ _ _ lo _ a w hsr hex (λe s' a' w' hk hs' hz=>?_) λl' b' s' a' w' hk hs' hz _ h2=>?_
  ·have hret: ∀e',B4 (K e' s')=some lo->Q e' a' w':=λe' hz=>by
    obtain⟨z',h1,rfl⟩:=Vu hz;rcases hcase with⟨_,_,he,_⟩|he
    ·cases he
    ·cases he
     exact hQ _ _ _ _ (hk0 s' hk) hs' h1
   cases e with
   |goto l'=>exact hgo l' s' a' w' hk hs' hz
   |normal=>exact hret _ hz
   |exit id=>exact hret _ hz
   |ret=>exact hret _ hz
   |panic ch=>cases hz
   |outgrown=>cases hz
  ·obtain⟨n',hn',hD'⟩:=hgo l' s' a' w' hk hs' hz
   obtain⟨b2,hb2,hw2⟩:=ih n' hn' l' a' w' hD';rw [QF hnd hb h2]at hb2;cases hb2;refine _root_.Go.wp_mono hw2 λe a w hq=>?_
   cases e with
   |goto l2=>obtain⟨n2,h1,h2⟩:=hq;exact⟨n2,by omega,h2⟩
   |normal=>exact hq
   |exit id=>exact hq
   |ret=>exact hq
   |panic ch=>exact hq
   |outgrown=>exact hq
 have hlab: ∀n l a w,D n l a w->∃r,findLabel c l=some r:=λn l a w hD=>by
  obtain⟨b,hb,_⟩:=claim n l a w hD;obtain⟨r,hr,_⟩:=IW (P:=P) c b l hch hb;exact⟨r,hr⟩
 have hmin: ∀ (l:Nat) (a:Act) (w:World),∃k,(∃n,D n l a w)->D k l a w/\∀n,D n l a w->k<=n:=by
  intro l a w;by_cases hJ: ∃n,D n l a w
  ·obtain⟨k,hk,hlt⟩:=OU hJ
   exact⟨k,λ_=>⟨hk,λn hn=>Nat.le_of_not_lt λhl=>hlt n hl hn⟩⟩
  ·exact⟨0,λh=>absurd h hJ⟩
 refine Li (λl a w=>∃n,D n l a w) (λl a w=>Classical.choose (hmin l a w)) ?_ ?_
 ·refine MH hE hm hkeep c s _ _ z _ a w hs h (λe s' a' w' hk hs' hz=>?_) λl b s1 a' w' hk hs' hz h1 h2=>?_
  ·cases e with
   |goto l=>cases hz
   |normal=>exact hQ _ _ _ _ hk hs' hz
   |exit id=>exact hQ _ _ _ _ hk hs' hz
   |ret=>exact hQ _ _ _ _ hk hs' hz
   |panic ch=>exact hQ _ _ _ _ hk hs' hz
   |outgrown=>exact hQ _ _ _ _ hk hs' hz
  ·rw [h2]at hz
   generalize QW s1 E.lp (BA c)=p at hz;obtain⟨L,Rh⟩:=p;simp only at hz;cases hok:HH (AU b) L Rh s1 with
   |false=>rw [hok]at hz;cases hz
   |true=>
   rw [hok]at hz;simp only [cond_true]at hz;split at hz
   case h_2=>cases hz
   rename_i cs hcs;split at hz
   case h_2=>cases hz
   rename_i x hx;have hml:C.m<=s1.r.length:=by
    obtain⟨hd0,hdd0,D0,ρ0,F0,hcr0⟩:=id hs';have:=hcr0.ml;simpa [St.den]using this
   cases hl:Aq (λy:Nat×(Bo (cs.map (·.t))).T=>IB E c (AU b) L Rh s1 (cs.map (·.t)) K y.1 y.2 (Bt c)) (l,x)with
   |none=>rw [hl]at hz;cases hz
   |some o=>
   rw [hl]at hz;cases o with
   |next=>cases hz
   |brk=>cases hz
   |ret r=>
   cases hz;obtain⟨n,hn⟩:=Cx.1 hl;have hD:D n l a' w':=by
    refine⟨l,b,L,Rh,s1,_,x,h1,h2,hok,hk,hml,hn,?_⟩;rw [Qi _ _ _ hx];exact JO hs' hcs hkeep hml (λ_ _ _ _=>rfl) (λ_ _ _=>⟨rfl,rfl⟩) λ_ _ _ _=>rfl
   obtain⟨b2,hb2,hw2⟩:=claim n l a' w' hD;rw [h2]at hb2;cases hb2;refine _root_.Go.wp_mono hw2 λe a w hq=>?_
   cases e with
   |goto l2=>obtain⟨n2,h1,h2⟩:=hq;exact⟨hlab _ _ _ _ h2,n2,h2⟩
   |normal=>exact hq
   |exit id=>exact hq
   |ret=>exact hq
   |panic ch=>exact hq
   |outgrown=>exact hq
 ·intro l r a w hf hJ
  obtain⟨hD,_⟩:=Classical.choose_spec (hmin l a w) hJ;obtain⟨b,hb,hw⟩:=claim _ l a w hD;obtain⟨r',hr',hrw⟩:=IW c b l hch hb;rw [hf]at hr';cases hr';refine hrw _ _ _ (_root_.Go.wp_mono hw λe a' w' hq=>?_)
  cases e with
  |goto l2=>
   obtain⟨n2,h1,h2⟩:=hq;refine⟨hlab _ _ _ _ h2,⟨n2,h2⟩,?_⟩;have:=(Classical.choose_spec (hmin l2 a' w') ⟨n2,h2⟩).2 n2 h2;show Classical.choose (hmin l2 a' w')<Classical.choose (hmin l a w);omega
  |normal=>exact hq
  |exit id=>exact hq
  |ret=>exact hq
  |panic ch=>exact hq
  |outgrown=>exact hq
theorem Pi(hE:EOK P E.toEnv)(hm:P.follows .mixedOrders=true)(hkeep:C.m<=E.h.keep)(c:Code)(s:St)(K:Exit->St->Option R)(z:R)(Q:Exit->Act->World->Prop)(a:Act)(w:World)(hs:AX C E.h.n s.den a w)(h:Zm E c s K=some z)
  (hQ: ∀e s' a' w',Kp (As (AU c)) s s'->AX C E.h.n s'.den a' w'->K e s'=some z->Q e a' w'):c.wp P Q a w:=
 MI hE hm hkeep (Vo hE hm hkeep) c s K z Q a w hs h hQ
end Go.Ve


namespace Go.Ve
variable{l:List Cl}{P:Program}{s:St}
def divP:A1->A1->Bool
 |(_,k)::p,(_,l)::q=>!Nat.beq k l||divP p q
 |_,_=>false
theorem P0{x:V}: ∀ {p q:A1} (_:divP p q=true) (v:V),sub q (upd p v x)=sub q v/\Bf p q=false
 |(i,k)::p,(j,l)::q,h0,v=>by
  have h:(!Nat.beq k l||divP p q)=true:=h0;by_cases hkl:k=l
  ·subst hkl
   rw [Nat.beq_refl,Bool.not_true,Bool.false_or]at h;refine⟨?_,?_⟩
   ·cases v with
    |nd s o sz n f=>
     show sub q (if j=i/\k=k then upd p (f i k) x else f j k)=sub q (f j k)
     by_cases hji:j=i
     ·subst hji
      rw [if_pos ⟨rfl,rfl⟩];exact(P0 h (f j k)).1
     grind
    |_=>rfl
   ·show(i==j&&k==k&&Bf p q)=false
    rw [(P0 (x:=x) h v).2,Bool.and_false]
  ·refine⟨?_,?_⟩
   ·cases v with
    |nd s o sz n f=>
     show sub q (if j=i/\l=k then upd p (f i k) x else f j l)=sub q (f j l)
     grind
    |_=>rfl
   ·show(i==j&&k==l&&Bf p q)=false
    grind
 | [],_,h,_=>by cases h
 |_::_,[],h,_=>by cases h
def CD:List Cl->List (Nat×A1)
 | []=>[]
 | .rf id p::l=>(id,p)::CD l
 |_::l=>CD l
def PZ(a b:Nat×A1):Bool:=!Nat.beq a.1 b.1||divP a.2 b.2
def K0:List (Nat×A1)->Bool
 | []=>true
 |a::l=>l.all (PZ a)&&K0 l
def Zq(r:List Ae):Cl->Option Cl
 | .c t d x=>some (.c t d x)
 | .nil=>some .nil
 | .nilp=>some .nilp
 | .rf id p=>match Ag r id p with
  | .arr _ t d xs=>some (.c (.sl t) (d+1) xs)
  |_=>none
 |_=>none
def MM(r:List Ae):List Cl->Option (List Cl)
 | []=>some []
 |y::l=>match Zq r y with
  |some z=>match MM r l with
   |some m=>some (z::m)
   |none=>none
  |none=>none
theorem PK{id:Nat}{q:A1}: ∀ {l:List Cl},Cl.rf id q∈l->(id,q)∈CD l
 | [],h=>by grind
 |z::l,h=>by
  rcases List.mem_cons.1 h with h|h
  ·subst h;exact List.mem_cons_self ..
  ·have:=PK h
   cases z<;>first|trivial|exact mCM _ this
theorem Jd{r:List Ae}{y:Cl}: ∀ {l l1:List Cl},MM r l=some l1->y∈l->∃z,Zq r y=some z
 | [],_,_,h=>by grind
 |z::l,l1,hl,h=>by
  unfold MM at hl;split at hl
  case h_2=>grind
  split at hl
  case h_2=>grind
  rename_i l2 hl2;rcases List.mem_cons.1 h with h|h
  ·grind
  ·exact Jd hl2 h
theorem Zl{m id:Nat}{p:A1}{n:Nat}{vs σ:List V}:tkL (m+1) (V.rs id p 0 n::vs) σ=(match sub p (σ.getD id .dead)with
   | .nd true true sz n' f=>if 0=0/\n=n' then .nd true true sz n' f::tkL m (vs.map λv=>AY σ.length [] (rrV id p σ.length v)) (σ.set id (upd p (σ.getD id .dead) .dead)++ [.dead])else .dead::tkL m vs σ
   |_=>.dead::tkL m vs σ):=rfl
theorem tkL_v(r:List Ae): ∀ (l l':List Cl) (m:Nat) (σ:List V),l.length<=m->l.all Cl.plain=true->MM r l=some l'->K0 (CD l)=true->
  (∀id p,(id,p)∈CD l->sub p (σ.getD id .dead)=(Ag r id p).v/\id<σ.length)->tkL m (l.map (Cl.v r)) σ=l'.map Cl.v0:=by
 intro l
 induction l with
 |nil=>intro l' m σ _ _ h _ _;cases h;cases m<;>rfl
 |cons y l ih=>
  intro l' m σ hm hp h hd hσ;cases m with
  |zero=>simp at hm
  |succ m=>
   simp only [List.length_cons]at hm;rw [List.all_cons,bAE]at hp;unfold MM at h;split at h
   case h_2=>cases h
   rename_i z hz;split at h
   case h_2=>cases h
   rename_i l1 hl1;cases h
   have plainly: ∀v:V,y.v r=v->v=z.v0->CD (y::l)=CD l->(∀vs,tkL (m+1) (v::vs) σ=v::tkL m vs σ)->tkL (m+1) ((y::l).map (Cl.v r)) σ=(z::l1).map Cl.v0:=by
    intro v hv hvz hrf htk;rw [List.map_cons,List.map_cons,hv,htk,<-hvz]
    congr 1
    exact ih l1 m σ (by omega) hp.2 hl1 (by rw [hrf]at hd;exact hd) λid p hm=>hσ id p (by rw [hrf];exact hm)
   cases y with
   |c t d x=>
    cases hz;cases t<;>first|exact plainly _ rfl rfl rfl (λ_=>rfl)|cases hp.1
   |nil=>cases hz;exact plainly _ rfl rfl rfl λ_=>rfl
   |nilp=>cases hz;exact plainly _ rfl rfl rfl λ_=>rfl
   |nilf=>cases hz
   |rf id p=>
    unfold Zq at hz;simp only at hz;split at hz
    case h_2=>cases hz
    rename_i ro t d xs hn;cases hz;have hd':((CD l).all (PZ (id,p))&&K0 (CD l))=true:=hd;rw [bAE]at hd';obtain⟨hs,hid⟩:=hσ id p (List.mem_cons_self ..);rw [hn]at hs;have hs:sub p (σ.getD id .dead)= .nd true true t.w xs.length λi k=>(tyV t d (xs.getD i t.dflt)).getD k .dead:=hs
    rw [List.map_cons];show tkL (m+1) (V.rs id p 0 (Ag r id p).len::l.map (Cl.v r)) σ=_;rw [hn];show tkL (m+1) (V.rs id p 0 xs.length::l.map (Cl.v r)) σ=_
    have e:tkL (m+1) (V.rs id p 0 xs.length::l.map (Cl.v r)) σ=(V.nd true true t.w xs.length λi k=>(tyV t d (xs.getD i t.dflt)).getD k .dead)::
      tkL m ((l.map (Cl.v r)).map λv=>AY σ.length [] (rrV id p σ.length v)) (σ.set id (upd p (σ.getD id .dead) .dead)++ [.dead]):=by
     rw [Zl,hs];exact if_pos ⟨rfl,rfl⟩
    rw [e,List.map_cons]
    congr 1
    -- the rest is as it was
    have hsame:(l.map (Cl.v r)).map (λv=>AY σ.length [] (rrV id p σ.length v))=l.map (Cl.v r):=by
     rw [List.map_map];refine List.map_congr_left λy hy=>?_
     show AY σ.length [] (rrV id p σ.length (y.v r))=y.v r;cases y with
     |c t d x=>cases t<;>first|rfl|exact(congrArg (AY σ.length []) ((Dh id p σ.length).osl (d:=d))).trans ((Bu σ.length []).osl (d:=d))|exact(congrArg (AY σ.length []) ((Dh id p σ.length).clo (d:=d))).trans ((Bu σ.length []).clo (d:=d))
     |dead=>rfl
     |nil=>rfl
     |nilp=>rfl
     |nilf=>rfl
     |rf id' q=>
      have hmem:(id',q)∈CD l:=PK hy;have hdv:=aET.1 hd'.1 _ hmem;have hlt:=(hσ id' q (mCM _ hmem)).2
      have hn1: ¬ (id'=id/\Bf p q=true):=by
       rintro ⟨h1,h2⟩
       unfold PZ at hdv;simp only [h1,Nat.beq_refl,Bool.not_true,Bool.false_or]at hdv;rw [(P0 (x:=.dead) hdv .dead).2]at h2;cases h2
      show AY σ.length [] (rrV id p σ.length (.rs id' q 0 (Ag r id' q).len))=_;simp only [rrV,if_neg hn1,AY];rw [if_neg (by rintro ⟨h,_⟩;omega)]
      rfl
     |rs id' q a b=>obtain⟨z,hz⟩:=Jd hl1 hy;cases hz
     |rp id' q a b=>obtain⟨z,hz⟩:=Jd hl1 hy;cases hz
    rw [hsame];refine ih l1 m _ (by omega) hp.2 hl1 hd'.2 λid' q hmem=>?_
    obtain⟨h1,h2⟩:=hσ id' q (mCM _ hmem);have hdv:=aET.1 hd'.1 _ hmem;refine⟨?_,by simp;omega⟩
    have hlt:id'<(σ.set id (upd p (σ.getD id .dead) .dead)).length:=by simpa using h2
    rw [AI hlt];by_cases hii:id=id'
    ·subst hii
     rw [Aw hid,<-h1];unfold PZ at hdv;simp only [Nat.beq_refl,Bool.not_true,Bool.false_or]at hdv;exact(P0 hdv _).1
    ·rw [Au hii,h1]
   |dead=>cases hz
   |rs=>cases hz
   |rp=>cases hz
def Zp(r:List Ae):List Cl->Option (List Cl)
 | [.rp id [] 0 0]=>match r.getD id .dead with
  | .obj false l=>match Hi l with
   |some ⟨t,x⟩=>bif l.any Cl.own then none else some [.c (.ptr t) 1 x]
   |none=>none
  |_=>none
 |l=>MM r l
theorem Zo{m:List Cl}(hm:Zp s.r l=some m)(h3:l.all Cl.plain=true)(hd:K0 (CD l)=true):tkL (l.map (Cl.v s.r)).length (l.map (Cl.v s.r)) s.den.σ=m.map Cl.v0:=by
 unfold Zp at hm;split at hm
 ·rename_i id
  split at hm
  case h_2=>cases hm
  rename_i l hr;split at hm
  case h_2=>cases hm
  rename_i t x hf;cases hb:l.any Cl.own with
  |true=>rw [hb]at hm;cases hm
  |false=>
  rw [hb]at hm;cases hm;have e1:=DP _ _ hf
  have e2:(l.map Cl.v0).map frz=l.map Cl.v0:=by
   rw [List.map_map];refine List.map_congr_left λc hc=>X5 ?_
   have:=List.any_eq_false.1 hb c hc;simpa using this
  have e3:tyV t 0 x=l.map Cl.v0:=e1.trans e2
  have hσ:s.den.σ.getD id .dead=Br true (l.map Cl.v0):=by
   show(s.r.map Ae.v).getD id .dead=_;rw [AG,hr];rfl
  show(match sub [] (s.den.σ.getD id .dead)with
   | .nd false true sz n f=>if 0=0/\0=0 then V.nd false true sz n f:: []else [.dead]
   |_=>[.dead])= [Br (decide (0<1)) (tyV t 0 x)]
  rw [hσ,e3];rfl
 ·have hlt: ∀id p,(id,p)∈CD l->Ag s.r id p≠.dead:=by
   intro id p
   have key: ∀ (l l':List Cl),MM s.r l=some l'->(id,p)∈CD l->Ag s.r id p≠.dead:=by
    intro l
    induction l with
    |nil=>intro l' _ h;cases h
    |cons y l ih=>
     intro l' hl hm;unfold MM at hl;split at hl
     case h_2=>cases hl
     rename_i z1 hz1;split at hl
     case h_2=>cases hl
     rename_i l2 hl2;cases y with
     |rf id' q=>
      rcases List.mem_cons.1 hm with h|h
      ·cases h
       intro hx
       have hz1:(match Ag s.r id p with
        | .arr _ t d xs=>some (Cl.c (.sl t) (d+1) xs)
        |_=>none)=some z1:=hz1
       rw [hx]at hz1;cases hz1
      ·exact ih l2 hl2 h
     |_=>exact ih l2 hl2 hm
   exact key _ _ hm
  refine tkL_v s.r l m (l.map (Cl.v s.r)).length s.den.σ (by simp) h3 hm hd λid p hmem=>?_
  have hne:=hlt id p hmem;refine⟨A4 hne,?_⟩;show id<(s.r.map Ae.v).length;rw [List.length_map];rcases Nat.lt_or_ge id s.r.length with h|h
  ·exact h
  ·exfalso
   apply hne;unfold Ag;rw [gDE,List.getElem?_eq_none h];exact DQ p
def retV1(Θ:Tab)(s:St):ResultVar->Option Sl
 | .tmp t=>some (s.t t)
 | .cell a t=>match U5 s (Θ.look t) (s.ev (.tmp a))with
  |some (.ok y)=>some y
  |_=>none
def Xy(Θ:Tab)(s:St):List ResultVar->Option (List Sl)
 | []=>some []
 |v::l=>match retV1 Θ s v with
  |some y=>match Xy Θ s l with
   |some m=>some (y::m)
   |none=>none
  |none=>none
def cellsOf:List Sl->Option (List (Bool×List Cl))
 | []=>some []
 |y::l=>match y with
  | .one c=>match(Sl.one c).cells,cellsOf l with
   |some m,some n=>some ((false,m)::n)
   |_,_=>none
  | .agg c=>match(Sl.agg c).cells,cellsOf l with
   |some m,some n=>some ((true,m)::n)
   |_,_=>none
  |_=>none
def OF(t:Ty)(d:Nat)(l:List Cl):Option t.T:=Ii t d (l.map (fit d))
theorem JB{t:Ty}{d:Nat}{x:t.T}(h:OF t d l=some x)(r:List Ae):CW (l.map (Cl.v r)) (tyV t d x)/\l.map (Cl.v r)=l.map Cl.v0:=by
 have:=C2 h r
 have e1:(l.map (fit d)).map (Cl.v r)=l.map (Cl.v r):=by
  rw [List.map_map];exact List.map_congr_left λc _=>(Aao d r c).1
 have e2:(l.map (fit d)).map Cl.v0=l.map Cl.v0:=by
  rw [List.map_map];exact List.map_congr_left λc _=>(Aao d r c).2
 grind
def KI(b:Bool)(p:Bool×Nat×Ty)(l:List Cl):Option p.2.2.T:=bif b|| !isP p then OF p.2.2 p.2.1 l else match l with
 | [.nilp]=>some p.2.2.dflt
 |_=>none
def PE(b:Bool):(rs:List (Bool×Nat×Ty))->List (Bool×List Cl)->List Cl->Option (RT rs).T
 | [],[],[]=>some ()
 | [p],[q],l=>bif p.1==q.1&&(p.1||p.2.2.one)&&Nat.beq l.length q.2.length then KI b p l else none
 |p::p'::rs,q::q'::qs,l=>bif p.1==q.1&&(p.1||p.2.2.one)&&Nat.ble q.2.length l.length then(match KI b p (l.take q.2.length)with
  |some x=>match PE b (p'::rs) (q'::qs) (l.drop q.2.length)with
   |some z=>some (x,z)
   |none=>none
  |none=>none)else none
 |_,_,_=>none
def AaG(b:Bool)(Θ:Tab)(rv:List ResultVar)(rs:List (Bool×Nat×Ty))(s:St):Option (RT rs).T:=match Xy Θ s rv with
 |some ys=>match cellsOf ys with
  |some ls=>match Zp s.r (ls.flatMap (·.2))with
   |some m=>bif K0 (CD (ls.flatMap (·.2)))then PE b rs ls m else none
   |none=>none
  |none=>none
 |none=>none
def retK(Θ:Tab)(rv:List ResultVar)(rs:List (Bool×Nat×Ty)):Exit->St->Option (RT rs).T
 | .normal,s=>AaG true Θ rv rs s
 | .ret,s=>AaG true Θ rv rs s
 |_,_=>none
def pS(b:Bool)(t:Ty)(x:t.T):Sl:=bif b then .agg (AD t 0 x)else .one (.c t 0 x)
def W9:(l:List (Bool×Ty))->(PT l).T->List Sl
 | [],_=>[]
 | [p],x=>[pS p.1 p.2 x]
 |p::q::l,x=>pS p.1 p.2 x.1::W9 (q::l) x.2
def Ow(l:List (Bool×Ty))(x:(PT l).T):St:=⟨λi=>(W9 l x).getD i (.one .dead),[]⟩
noncomputable def tfun(E:A9)(body:Code)(rv:List ResultVar)(S:Sig)(x:(PT S.ps).T):Option (RT S.rs).T:=Zm E body (Ow S.ps x) (retK E.Θ rv S.rs)
theorem N5{s:St}: ∀ (ys:List Sl) (ls:List (Bool×List Cl)),cellsOf ys=some ls->(ys.map (Sl.v s.r)).all BC=true/\(ys.map (Sl.v s.r)).flatMap Go.Ve.cellsV=(ls.flatMap (·.2)).map (Cl.v s.r)/\(ls.flatMap (·.2)).all Cl.plain=true/\ls.length=ys.length
 | [],ls,h=>by cases h;exact⟨rfl,rfl,rfl,rfl⟩
 |y::ys,ls,h=>by
  have go: ∀ (b:Bool) (m:List Cl) (n:List (Bool×List Cl)),y.cells=some m->cellsOf ys=some n->ls=(b,m)::n->((y::ys).map (Sl.v s.r)).all BC=true/\((y::ys).map (Sl.v s.r)).flatMap Go.Ve.cellsV=(ls.flatMap (·.2)).map (Cl.v s.r)/\(ls.flatMap (·.2)).all Cl.plain=true/\ls.length=(y::ys).length:=by
   intro b m n hm hn e;subst e;obtain⟨h1,h2,h3⟩:=CM (r:=s.r) hm;obtain⟨g1,g2,g3,g4⟩:=N5 ys n hn;refine⟨by rw [List.map_cons,List.all_cons,h1,g1];rfl,?_,?_,by simp [g4]⟩
   ·grind
   ·rw [List.flatMap_cons,List.all_append,h3,g3];rfl
  unfold cellsOf at h;split at h
  ·split at h
   ·rename_i m n hm hn
    cases h;exact go _ _ _ hm hn rfl
   ·cases h
  ·split at h
   ·rename_i m n hm hn
    cases h;exact go _ _ _ hm hn rfl
   ·cases h
  ·cases h
theorem DR{s:St}: ∀ (ys:List Sl) (ls:List (Bool×List Cl)),cellsOf ys=some ls->∀k,k<ls.length->((ls.getD k (false,[])).1=true/\(∃l,(ys.getD k (.one .dead)).v s.r=Aj l/\l.length=(ls.getD k (false,[])).2.length))\/((ls.getD k (false,[])).1=false/\(∀t n f,(ys.getD k (.one .dead)).v s.r≠.many t n f)/\(ls.getD k (false,[])).2.length=1)
 | [],ls,h,k,hk=>by cases h;simp at hk
 |y::ys,ls,h,k,hk=>by
  unfold cellsOf at h;split at h
  ·rename_i c
   split at h
   ·rename_i m n hm hn
    cases h;cases k with
    |zero=>
     right;refine⟨rfl,?_,?_⟩
     ·have hm:(bif c.plain then some [c]else none)=some m:=hm
      cases hb:c.plain with
      |false=>rw [hb]at hm;cases hm
      |true=>
       show ∀t n f,c.v s.r≠.many t n f;cases c with
       |c t d x=>cases t<;>first|(cases hb;done)|(intro _ _ _ h;cases h)
       |_=>intro _ _ _ h;cases h
     ·have hm:(bif c.plain then some [c]else none)=some m:=hm
      cases hb:c.plain with
      |false=>rw [hb]at hm;cases hm
      |true=>rw [hb]at hm;cases hm;rfl
    |succ k=>exact DR ys n hn k (by simpa using hk)
   ·cases h
  ·rename_i c
   split at h
   ·rename_i m n hm hn
    cases h;cases k with
    |zero=>
     left;refine⟨rfl,c.map (Cl.v s.r),rfl,?_⟩;have hm:(bif c.all Cl.plain then some c else none)=some m:=hm;cases hb:c.all Cl.plain with
     |false=>rw [hb]at hm;cases hm
     |true=>rw [hb]at hm;cases hm;simp
    |succ k=>exact DR ys n hn k (by simpa using hk)
   ·cases h
  ·cases h
theorem XF(b:Bool): ∀ (rs:List (Bool×Nat×Ty)) (ls:List (Bool×List Cl)) (l:List Cl) (z:(RT rs).T) (vl:List V),PE b rs ls l=some z->vl.length=ls.length->
  (∀k,k<ls.length->((ls.getD k (false,[])).1=true/\(∃m,vl.getD k .dead=Aj m/\m.length=(ls.getD k (false,[])).2.length))\/((ls.getD k (false,[])).1=false/\(∀t n f,vl.getD k .dead≠.many t n f)/\(ls.getD k (false,[])).2.length=1))->
  CW (Bl vl (l.map Cl.v0)) (QG b rs z):=by
 -- one result
 have one: ∀ (p:Bool×Nat×Ty) (q:Bool×List Cl) (l:List Cl) (x:p.2.2.T) (v:V) (vs:List V) (rest:List V),p.1=q.1->(p.1=true\/p.2.2.one=true)->l.length=q.2.length->KI b p l=some x->
   ((q.1=true/\(∃m,v=Aj m/\m.length=q.2.length))\/(q.1=false/\(∀t n f,v≠.many t n f)/\q.2.length=1))->∃v',Bl (v::vs) (l.map Cl.v0++rest)=v'::Bl vs rest/\Sub v' (W3 b p x):=by
  intro p q l x v vs rest h1 h2 hl hx hk;unfold KI at hx;unfold W3;cases hbp:b|| !isP p with
  |false=>
   rw [hbp]at hx;simp only [cond_false]at hx;split at hx
   case h_2=>cases hx
   have hp1:p.1=false:=by
    rw [Bool.or_eq_false_iff,Bool.not_eq_false']at hbp;have:=hbp.2;unfold isP at this;rw [bAE,Bool.not_eq_true']at this;exact this.1
   rcases hk with⟨hq,_⟩|⟨_,hv,_⟩
   ·rw [<-h1,hp1]at hq;cases hq
   ·refine⟨.c (.pointer none),?_,Sub.refl _⟩
    show Bl (v::vs) (.c (.pointer none)::rest)=_;cases v with
    |many t n f=>exact absurd rfl (hv _ _ _)
    |_=>rfl
  |true=>
  rw [hbp]at hx;simp only [cond_true]at hx⊢;obtain⟨g1,g2⟩:=JB hx [];rw [g2]at g1;rcases hk with⟨hq,m,rfl,hm⟩|⟨hq,hv,hq1⟩
  ·refine⟨Aj (l.map Cl.v0),?_,?_⟩
   ·show Aj ((l.map Cl.v0++rest).take m.length)::Bl vs ((l.map Cl.v0++rest).drop m.length)=_
    have e:(l.map Cl.v0).length=m.length:=by rw [List.length_map,hl,hm]
    rw [<-e,List.take_left,List.drop_left]
   ·rw [h1,hq];exact g1.mk
  ·have hp:p.1=false:=by rw [h1,hq]
   have ho:p.2.2.one=true:=by rcases h2 with h|h;rw [hp]at h;cases h;exact h
   rw [BM ho]at g1
   match l,hl with
   | [y],_=>
    refine⟨y.v0,?_,?_⟩
    ·show Bl (v::vs) (y.v0::rest)=_
     cases v with
     |many t n f=>exact absurd rfl (hv _ _ _)
     |_=>rfl
    ·rw [hp];exact g1.1
   | [],hl=>rw [hq1]at hl;cases hl
   |_::_::_,hl=>rw [hq1]at hl;simp at hl
 intro rs
 induction rs with
 |nil=>
  intro ls l z vl h hl hk;cases ls with
  |nil=>cases l with
   |nil=>cases vl with
    |nil=>trivial
    |cons=>simp at hl
   |cons=>cases h
  |cons=>cases h
 |cons p rs ih=>
  intro ls l z vl h hl hk;cases rs with
  |nil=>
   cases ls with
   |nil=>cases h
   |cons q ls=>cases ls with
    |cons=>cases h
    |nil=>
     have h:(bif p.1==q.1&&(p.1||p.2.2.one)&&Nat.beq l.length q.2.length then KI b p l else none)=some z:=h;cases hb:(p.1==q.1&&(p.1||p.2.2.one)&&Nat.beq l.length q.2.length)with
     |false=>rw [hb]at h;cases h
     |true=>
      rw [hb]at h;simp only [bAE,beq_iff_eq,Bool.or_eq_true]at hb;cases vl with
      |nil=>simp at hl
      |cons v vl=>cases vl with
       |cons=>simp at hl
       |nil=>
        obtain⟨v',e,hs⟩:=one p q l z v [] [] hb.1.1 hb.1.2 (bqE hb.2) h (hk 0 (by simp))
        rw [List.append_nil]at e;rw [e];exact⟨hs,trivial⟩
  |cons p' rs=>
   cases ls with
   |nil=>cases h
   |cons q ls=>cases ls with
    |nil=>cases h
    |cons q' ls=>
     have h:(bif p.1==q.1&&(p.1||p.2.2.one)&&Nat.ble q.2.length l.length then(match KI b p (l.take q.2.length)with
      |some x=>match PE b (p'::rs) (q'::ls) (l.drop q.2.length)with
       |some z=>some (x,z)
       |none=>none
      |none=>none)else none:Option (RT (p::p'::rs)).T)=some z:=h
     cases hb:(p.1==q.1&&(p.1||p.2.2.one)&&Nat.ble q.2.length l.length)with
     |false=>rw [hb]at h;cases h
     |true=>
      rw [hb]at h;simp only [bAE,beq_iff_eq,Bool.or_eq_true]at hb;simp only [cond_true]at h;split at h
      case h_2=>cases h
      rename_i x hx;split at h
      case h_2=>cases h
      rename_i z2 hz2;cases h;cases vl with
      |nil=>simp at hl
      |cons v vl=>
       have hlen:(l.take q.2.length).length=q.2.length:=by
        have:=blE hb.2;rw [List.length_take];omega
       obtain⟨v',e,hs⟩:=one p q (l.take q.2.length) x v vl ((l.drop q.2.length).map Cl.v0) hb.1.1 hb.1.2 hlen hx (hk 0 (by simp))
       rw [<-List.map_append,List.take_append_drop]at e;rw [e];refine⟨hs,ih (q'::ls) (l.drop q.2.length) z2 vl hz2 (by simpa using hl) λk hk'=>?_⟩
       have:=hk (k+1) (by simpa using hk')
       simpa using this
theorem Vt{P:Program}{Θ:Tab}(hΘ:Θ.OK P){s:St}{K:List V->Prop}: ∀ (rv:List ResultVar) (ys:List Sl) (acc:List V),Xy Θ s rv=some ys->K (acc++ys.map (Sl.v s.r))->Uz P s.den rv acc K
 | [],ys,acc,h,hK=>by cases h;show K acc;grind
 |v::rv,ys,acc,h,hK=>by
  unfold Xy at h;split at h
  case h_2=>cases h
  rename_i y hy;split at h
  case h_2=>cases h
  rename_i m hm;cases h;have hrest:Uz P s.den rv (acc++ [y.v s.r]) K:=Vt hΘ rv m _ hm (by grind)
  cases v with
  |tmp t=>
   cases hy;exact hrest
  |cell a t=>
   unfold retV1 at hy;simp at hy;split at hy
   ·rename_i y' hl
    cases hy;exact KD (Pl hΘ hl trivial) λr0 hr=>by rw [hr];exact hrest
   grind
theorem Pq{Θ:Tab}(hΘ:Θ.OK P){rv:List ResultVar}{rs:List (Bool×Nat×Ty)}{b:Bool}{z:(RT rs).T}(h:AaG b Θ rv rs s=some z):Uz P s.den rv [] (WZ s.den.σ (Kd b rs z)):=by
 unfold AaG at h;split at h
 case h_2=>cases h
 rename_i ys hys;split at h
 case h_2=>cases h
 rename_i ls hls;split at h
 case h_2=>cases h
 rename_i m hm;cases hd:K0 (CD (ls.flatMap (·.2)))with
 |false=>rw [hd]at h;cases h
 |true=>
  rw [hd]at h;refine Vt hΘ rv ys [] hys ?_;rw [List.nil_append];obtain⟨h1,h2,h3,h4⟩:=N5 (s:=s) ys ls hls;refine⟨h1,?_⟩;rw [h2];have htk:=Zo hm h3 hd
  ·rw [htk]
   have hsub:=XF b rs ls m z (ys.map (Sl.v s.r)) h (by rw [List.length_map,h4]) λk hk=>?_
   ·-- KH
    have hp: ∀ {a b:List V},CW a b->Sub (NA a) (NA b):=by
     intro a b hab
     match a,b,hab with
     | [],[],_=>exact Sub.refl _
     | [x],[y],hab=>exact hab.1
     |x::x'::a,y::y'::b,hab=>
      show Sub (Dx _) (Dx _);unfold Dx;rw [hab.len];exact⟨_,rfl,λk _=>hab.getD k⟩
     | [],_::_,hab=>exact hab.elim
     |_::_,[],hab=>exact hab.elim
     | [_],_::_::_,hab=>exact hab.2.elim
     |_::_::_,[_],hab=>exact hab.2.elim
    exact hp hsub
   ·have:=DR (s:=s) ys ls hls k hk
    simp_all
theorem pS_v(b:Bool)(t:Ty)(x:t.T):(pS b t x).v []=vOf b t 0 x:=by
 cases b with
 |true=>show Aj ((AD t 0 x).map (Cl.v []))=_;rw [Cl.v_c];rfl
 |false=>rfl
theorem WL: ∀ (l:List (Bool×Ty)) (x:(PT l).T),(W9 l x).map (Sl.v [])=Cu l x
 | [],x=>rfl
 | [p],x=>congrArg (λv=>[v]) (pS_v p.1 p.2 x)
 |p::q::l,x=>by
  show(pS p.1 p.2 x.1).v []::(W9 (q::l) x.2).map (Sl.v [])=vOf p.1 p.2 0 x.1::Cu (q::l) x.2;rw [WL (q::l) x.2,pS_v]
theorem DS: ∀ (l:List (Bool×Ty)) (x:(PT l).T),(Cu l x).length=l.length
 | [],_=>rfl
 | [_],_=>rfl
 |_::q::l,x=>by show(Cu (q::l) x.2).length+1=_;rw [DS];rfl
theorem Yo{E:A9}{f:FuncId}{fn:Func}{body:Code}{S:Sig}(hE:EOK P E.toEnv)(hm:P.follows .mixedOrders=true)(hf:P.funcs[f]? =some fn)(hb:fn.body=some body)(hn:max S.ps.length fn.ntmps=E.h.n):
  FT P f S (tfun E body fn.results.toList S):=by
 intro x y hxy;refine FC_of hf hb (by rw [DS];omega) λ_ C a w Q hCm hs hQ=>?_
 have e:(Ow S.ps x).den=⟨λi=>(Cu S.ps x).getD i .dead,[]⟩:=by
  show Ms.mk (λi=>((W9 S.ps x).getD i (.one .dead)).v []) []=_
  congr 1
  funext i
  rw [<-WL S.ps x,AT (a:=.one .dead) rfl]
 rw [<-e]at hs;rw [<-D9]at hQ;refine Pi hE hm (by omega) body (Ow S.ps x) _ y Q a w hs hxy λe s' a' w' _ hs' hz=>?_
 cases e with
 |normal=>exact hQ .normal s'.den a' w' (Pq hE.Θ hz) hs'
 |ret=>exact hQ .ret s'.den a' w' (Pq hE.Θ hz) hs'
 |exit id=>trivial
 |goto l=>trivial
 |panic ch=>trivial
 |outgrown=>trivial
end Go.Ve


namespace Go.Ve
variable{P:Program}
noncomputable def tfn(E:A9)(fn:Func)(S:Sig)(x:(PT S.ps).T):Option (RT S.rs).T:=match fn.body with
 |some b=>tfun E b fn.results.toList S x
 |none=>none
theorem AW{E:A9}{f:FuncId}{fn:Func}{S:Sig}(hΘ:Tab.OK P E.Θ)(hΓ:Mz P E.Γ)(hW: ∀e∈E.W,e.OK P)(hN: ∀e∈E.N,e.OK P)(hm:P.follows .mixedOrders=true)(hf:P.funcs[f]? =some fn)(hn:max S.ps.length fn.ntmps=E.h.n){g:(PT S.ps).T->Option (RT S.rs).T}(hg:tfn E fn S=g)(hU: ∀e∈E.U,e.OK P:=by exact Cg):FT P f S g:=by
 subst hg;intro x y hxy;unfold tfn at hxy;cases hb:fn.body with
 |none=>grind
 |some b=>
  rw [hb]at hxy;exact Yo ⟨hΘ,hΓ,hW,hN,hU⟩ hm hf hb hn x y hxy
theorem An: ∀e∈([]:List EnN),e.OK P:=by simp
theorem Am:Mz P []:=λ_ h=>by grind
theorem Ac{e:En}{l:List En}(h1:Af P e.f=true)(h2:FT P e.f e.S e.g)(hl:Mz P l):Mz P (e::l):=by
 intro x hx;rcases List.mem_cons.1 hx with rfl|hx
 ·trivial
 ·exact hl x hx
end Go.Ve

