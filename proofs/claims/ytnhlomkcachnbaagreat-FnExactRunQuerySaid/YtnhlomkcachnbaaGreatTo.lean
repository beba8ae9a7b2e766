/- The typed machine over code: what a body computes, as a function; that it does. -/
import Derived.Test.YtnhlomkcachnbaaGreatTl
namespace Go.Ve
inductive LO(X R:Type) where
 |next (x:X)
 |brk (id:Nat) (x:X)
 |ret (r:R)
inductive Cf{X R:Type}(f:X->Option (LO X R)):X->LO X R->Nat->Prop where
 |brk {x y:X} {id:Nat}:f x=some (.brk id y)->Cf f x (.brk id y) 0
 |ret {x:X} {r:R}:f x=some (.ret r)->Cf f x (.ret r) 0
 |step {x y:X} {o:LO X R} {n:Nat}:f x=some (.next y)->Cf f y o n->Cf f x o (n+1)
noncomputable def Au{X R:Type}(f:X->Option (LO X R))(x:X):Option (LO X R):=@dite _ (∃o n,Cf f x o n) (Classical.propDecidable _) (fun h=>some (Classical.choose h)) fun _=>none
theorem Cf.det{X R:Type}{f:X->Option (LO X R)}: ∀ {x:X} {o o':LO X R} {n n':Nat},Cf f x o n->Cf f x o' n'->o=o'/\n=n':=by
 intro x o o' n n' h
 induction h generalizing o' n' with
 |brk h=>intro h';cases h' with
  |brk h'=>rw [h]at h';cases h';exact⟨rfl,rfl⟩
  |ret h'=>rw [h]at h';cases h'
  |step h' _=>rw [h]at h';cases h'
 |ret h=>intro h';cases h' with
  |brk h'=>rw [h]at h';cases h'
  |ret h'=>rw [h]at h';cases h';exact⟨rfl,rfl⟩
  |step h' _=>rw [h]at h';cases h'
 |step h _ ih=>intro h';cases h' with
  |brk h'=>rw [h]at h';cases h'
  |ret h'=>rw [h]at h';cases h'
  |step h' h2=>rw [h]at h';cases h';obtain⟨rfl,rfl⟩:=ih h2;exact⟨rfl,rfl⟩
theorem Cg{X R:Type}{f:X->Option (LO X R)}{x:X}{o:LO X R}:Au f x=some o↔ ∃n,Cf f x o n:=by
 unfold Au;split
 ·rename_i h
  obtain⟨n,hn⟩:=Classical.choose_spec h;constructor
  ·intro e;cases e;exact⟨n,hn⟩
  ·rintro ⟨n',h'⟩;rw [(hn.det h').1]
 ·rename_i h
  constructor
  ·intro e;cases e
  ·rintro ⟨n,hn⟩;exact absurd ⟨o,n,hn⟩ h
theorem Bn{X R:Type}(f:X->Option (LO X R))(x:X):Au f x=(f x).bind fun o=>match o with
  | .next y=>Au f y
  | .brk id y=>some (.brk id y)
  | .ret r=>some (.ret r):=by
 cases hf:f x with
 |none=>
  show Au f x=none;cases h:Au f x with
  |none=>rfl
  |some o=>
   obtain⟨n,hn⟩:=Cg.1 h;cases hn with
   |brk h'=>rw [hf]at h';cases h'
   |ret h'=>rw [hf]at h';cases h'
   |step h' _=>rw [hf]at h';cases h'
 |some o=>
  cases o with
  |brk id y=>exact Cg.2 ⟨0,.brk hf⟩
  |ret r=>exact Cg.2 ⟨0,.ret hf⟩
  |next y=>
   show Au f x=Au f y;cases h:Au f y with
   |some o=>obtain⟨n,hn⟩:=Cg.1 h;exact Cg.2 ⟨n+1,.step hf hn⟩
   |none=>
    cases h2:Au f x with
    |none=>rfl
    |some o=>
     obtain⟨n,hn⟩:=Cg.1 h2;cases hn with
     |brk h'=>rw [hf]at h';cases h'
     |ret h'=>rw [hf]at h';cases h'
     |step h' h3=>rw [hf]at h';cases h';rw [Cg.2 ⟨_,h3⟩]at h;cases h
def Bc:List Ty->Ty
 | []=>.unit
 | [t]=>t
 |t::u::l=>.pair t (Bc (u::l))
def WR(t:Ty)(y:Dy):Option t.T:=if h:y.t=t then some (h▸y.x)else none
def toX:(tys:List Ty)->List Dy->Option (Bc tys).T
 | [],[]=>some ()
 | [t],[y]=>WR t y
 |t::u::l,y::ys=>match WR t y with
  |some x=>match toX (u::l) ys with
   |some z=>some (x,z)
   |none=>none
  |none=>none
 |_,_=>none
def ofX:(tys:List Ty)->(Bc tys).T->List Dy
 | [],_=>[]
 | [t],x=>[⟨t,x⟩]
 |t::u::l,x=>⟨t,x.1⟩::ofX (u::l) x.2
theorem WQ{t:Ty}{y:Dy}{x:t.T}(h:WR t y=some x):(⟨t,x⟩:Dy)=y:=by
 unfold WR at h;split at h
 ·rename_i ht;subst ht;cases h;rfl
 ·cases h
theorem Qx: ∀ (tys:List Ty) (cs:List Dy) (x:(Bc tys).T),toX tys cs=some x->ofX tys x=cs
 | [],[],x,h=>rfl
 | [t],[y],x,h=>by show [(⟨t,x⟩:Dy)]= [y];rw [WQ h]
 |t::u::l,y::ys,x,h=>by
  have h:(match WR t y with
   |some x=>match toX (u::l) ys with
    |some z=>some (x,z)
    |none=>none
   |none=>none:Option (Bc (t::u::l)).T)=some x:=h
  split at h
  case h_2=>cases h
  rename_i x1 h1;split at h
  case h_2=>cases h
  rename_i z h2;cases h;show(⟨t,x1⟩:Dy)::ofX (u::l) z=_;rw [WQ h1,Qx (u::l) ys z h2]
 | [],_::_,_,h=>by cases h
 | [_],[],_,h=>by cases h
 | [_],_::_::_,_,h=>by cases h
 |_::_::_,[],_,h=>by cases h
structure AW extends Env where
 lp:List (Nat×List Nat×List Nat)
 dn:List (Nat×Nat)
def Bp:Code->Nat
 | .region id _ _=>id
 | .seq a b=>match a with
  | .skip=>Bp b
  | .label _=>Bp b
  |a=>Bp a
 | .block _ b=>Bp b
 | .loop b=>Bp b
 | .scope b=>Bp b
 |_=>0
def AG:Code->List Oper
 | .region _ ops _=>ops.toList
 | .seq a b=>AG a++AG b
 | .cond _ a b=>AG a++AG b
 | .block _ b=>AG b
 | .loop b=>AG b
 | .scope b=>AG b
 |_=>[]
def NO:Code->List Nat
 | .exit id=>[id]
 | .seq a b=>NO a++NO b
 | .cond _ a b=>NO a++NO b
 | .block id b=>(NO b).filter fun i=>!Nat.beq i id
 | .loop b=>NO b
 |_=>[]
def lookN{α:Type}(d:α):List (Nat×α)->Nat->α
 | [],_=>d
 |(i,x)::l,k=>bif Nat.beq i k then x else lookN d l k
def clId:Cl->List Nat
 | .rf id _=>[id]
 | .rp id _ _ _=>[id]
 | .rs id _ _ _=>[id]
 |_=>[]
def slId:Sl->List Nat
 | .one c=>clId c
 |_=>[]
def condN(s:St)(c:Nat):Bool:=bif Nat.ble 2000000 c then(match slId (s.t (c-2000000))with
 | []=>true
 |_=>false)else bif Nat.ble 1000000 c then(slId (s.t ((c-1000000)/1000))).any fun i=>Nat.beq i ((c-1000000) % 1000)else true
def Uc(s:St):List (Nat×List Nat×List Nat)->Nat->List Nat×List Nat
 | [],_=>([],[])
 |(i,L,R)::l,k=>bif Nat.beq i k then(bif R.all (condN s)then(L,R.filter fun c=>!Nat.ble 1000000 c)else Uc s l k)else Uc s l k
def Wl(o:Oper):Bool:=match o.op with
 | .store _ _ _=>true
 |_=>false
def Aao(o:Oper):Bool:=match o.op with
 | .build _ _=>true
 | .buildSlice _ _ _=>true
 |_=>Wl o
def Wm(E:Env)(o:Oper):Bool:=Wl o||match V5 E o with
 |some (.app _ _ _ _)=>true
 |some (.cw _ _ _)=>true
 |_=>false
def U0:List Oper->Nat
 | []=>0
 |o::l=>match o.op with
  | .assign _=>U0 l+1
  |_=>0
def isNew(ops:Array Oper)(y:Nat):Bool:=ops.toList.any fun o=>match o.op,o.dst with
 | .alloc _,some d=>Nat.beq d y
 |_,_=>false
def isMade(ops:Array Oper)(y:Nat):Bool:=ops.toList.any fun o=>match o.dst with
 |some d=>Nat.beq d y&&(match o.op with
  | .buildSlice _ _ _=>true
  | .makeSlice _ _ _=>true
  |op=>(W0 op).isSome)
 |none=>false
def isLate(E:Env)(ops:Array Oper)(o:Oper):Bool:=match o.op with
 | .store _ (.tmp y) _=>!isNew ops y
 | .store _ _ _=>true
 |_=>match W0 o.op with
  |some (_,.tmp y,_)=>!isMade ops y
  |some _=>true
  |none=>Wm E o
def headD(E:Env)(ops:Array Oper):Nat:=bif ops.toList.any (Wm E)then ops.toList.findIdx (fun o=>Aao o||Wm E o)else
 bif D6 ops (ops.size-U0 ops.toList.reverse)then ops.size-U0 ops.toList.reverse else ops.size
def headN(E:AW)(id:Nat)(ops:Array Oper):Nat:=lookN (bif D6 ops (headD E.toEnv ops)then headD E.toEnv ops else ops.toList.findIdx (isLate E.toEnv ops)) E.dn id
def brkK{R:Type}(K:Exit->St->Option R):List Nat->Nat->St->Option R
 | [],_,_=>none
 |i::l,id,s=>nif id i (K (.exit i) s) (brkK K l id s)
@[reducible] def By {X R:Type} (o:Option R):Option (LO X R):=o.map .ret
@[reducible] def LO.fin {X R:Type} (f:Nat->X->Option R):LO X R->Option R
 | .brk id x=>f id x
 | .ret r=>some r
 | .next _=>none
def Uk{R:Type}(L Rh:List Nat)(s:St)(keep:Nat)(tys:List Ty)(K:Exit->St->Option R)(e:Exit)(s':St):Option (LO (Bc tys).T R):=match e with
 | .normal=>match Yl L Rh s s' keep with
  |some cs=>match toX tys cs with
   |some x=>some (.next x)
   |none=>none
  |none=>none
 | .exit id=>match Yl L Rh s s' keep with
  |some cs=>match toX tys cs with
   |some x=>some (.brk id x)
   |none=>none
  |none=>none
 | .ret=>By (K .ret s')
 |_=>none
def Yt{R:Type}(b:Code)(L Rh:List Nat)(s:St)(tys:List Ty)(K:Exit->St->Option R):LO (Bc tys).T R->Option R:=
 LO.fin fun id x=>brkK K (NO b).eraseDups id (A6 false (AG b) L Rh s (ofX tys x))
def HA(b:List Oper)(L Rh:List Nat)(s:St):Bool:=L.all (fun d=>!(Aq b d&&(s.t d).stay))&&Rh.all fun i=>!(s.r.getD i .dead).isRo
def LU:List Nat->St->St
 | [],s=>s
 |id::l,s=>match s.r.getD id .dead with
  | .arr false (.sl u) d xs=>bif Nat.beq u.dep 0 then LU l ⟨s.t,s.r.set id (.arr false (.osl u) d (My xs))⟩else LU l s
  |_=>LU l s
def ozOf:List (Nat×Nat)->Nat->List Nat
 | [],_=>[]
 |(a,b)::l,k=>bif Nat.beq a (k+1000000)then b::ozOf l k else ozOf l k
theorem Jq: ∀ (u:Ty) (d:Nat) (x:u.T),u.dep=0->∀c∈As u d x,∀ro,c.node ro= .dead
 | .int _,_,_,_,c,h,_=>by rw [List.mem_singleton.1 h];rfl
 | .bool,_,_,_,c,h,_=>by rw [List.mem_singleton.1 h];rfl
 | .str,_,_,_,c,h,_=>by rw [List.mem_singleton.1 h];rfl
 | .unit,_,_,_,c,h,_=>by cases h
 | .pair a b,d,x,hd,c,h,ro=>by
  simp only [Ty.dep]at hd;rcases List.mem_append.1 h with h|h
  ·exact Jq a d x.1 (by omega) c h ro
  ·exact Jq b d x.2 (by omega) c h ro
 | .sl _,_,_,h,_,_,_=>by simp [Ty.dep]at h
 | .ptr _,_,_,h,_,_,_=>by simp [Ty.dep]at h
 | .clo _ _,_,_,h,_,_,_=>by simp [Ty.dep]at h
 | .osl _,_,_,h,_,_,_=>by simp [Ty.dep]at h
theorem PZ{α:Type}(xs:List (List α))(i:Nat):(My xs).getD i (some [])=some (xs.getD i []):=by
 unfold My;simp only [gDE,List.getElem?_map];cases xs[i]? <;>rfl
theorem Z8{u:Ty}{d:Nat}{xs:List (List u.T)}:(Ac.arr false (.osl u) d (My xs)).v=(Ac.arr false (.sl u) d xs).v:=by
 show arr true 1 (tyV (.osl u) d) (some []) (My xs)=arr true 1 (tyV (.sl u) d) [] xs;unfold arr;have hl:(My xs).length=xs.length:=by simp [My]
 rw [hl]
 congr 1
 funext i k
 rw [PZ];rfl
theorem VV{u:Ty}{d:Nat}{xs:List (List u.T)}(hu:u.dep=0): ∀q:AU,((Ac.arr false (.osl u) d (My xs)).at' q).len=((Ac.arr false (.sl u) d xs).at' q).len
 | []=>by show(My xs).length=xs.length;simp [My]
 |(i,0)::q=>by
  show(((Cl.c (.osl u) d ((My xs).getD i (some []))).node false).at' q).len=(((Cl.c (.sl u) d (xs.getD i [])).node false).at' q).len;rw [PZ];cases d with
  |zero=>rfl
  |succ d=>
   cases q with
   |nil=>rfl
   |cons a q=>
    obtain⟨i2,k2⟩:=a;show(((([]:List Cl).getD k2 .dead).node false).at' q).len=((((As u d ((xs.getD i []).getD i2 u.dflt)).getD k2 .dead).node false).at' q).len
    have e:((As u d ((xs.getD i []).getD i2 u.dflt)).getD k2 .dead).node false= .dead:=by
     by_cases hk:k2<(As u d ((xs.getD i []).getD i2 u.dflt)).length
     ·rw [gDE,gEE hk]
      exact Jq u d _ hu _ (List.getElem_mem hk) _
     ·rw [gDE,List.getElem?_eq_none (by omega)];rfl
    rw [e];rfl
 |(i,k+1)::q=>by
  have e1:(Ac.arr false (.osl u) d (My xs)).at' ((i,k+1)::q)= .dead:=Cx q;have e2:(Ac.arr false (.sl u) d xs).at' ((i,k+1)::q)= .dead:=Cx q;rw [e1,e2]
theorem Cl.v_lens{r r':List Ac}(h: ∀id q,(Ae r' id q).len=(Ae r id q).len)(y:Cl):y.v r'=y.v r:=by
 cases y with
 |rf id p=>show V.rs id p 0 _=V.rs id p 0 _;rw [h]
 |_=>rfl
theorem Sl.v_lens{r r':List Ac}(h: ∀id q,(Ae r' id q).len=(Ae r id q).len)(y:Sl):y.v r'=y.v r:=by
 have e:Cl.v r'=Cl.v r:=funext fun c=>Cl.v_lens h c
 cases y with
 |one c=>exact Cl.v_lens h c
 |new l=>rfl
 |agg l=>show Af _=Af _;rw [e]
 |tup l=>show C1 _=C1 _;rw [e]
 |pk t l=>show pkL t _=pkL t _;rw [e]
theorem Hw: ∀ (l:List Nat) (s:St),(LU l s).den=s.den/\∀g,Kp g s (LU l s)
 | [],s=>⟨rfl,fun g=>Kp.refl _ _⟩
 |id::l,s=>by
  unfold LU;split
  ·rename_i u d xs hr
   cases hb:Nat.beq u.dep 0 with
   |false=>exact Hw l s
   |true=>
    have hu:=bqE hb;obtain⟨h1,h2⟩:=Hw l ⟨s.t,s.r.set id (.arr false (.osl u) d (My xs))⟩;have hid:id<s.r.length:=by
     rcases Nat.lt_or_ge id s.r.length with h|h
     ·exact h
     ·rw [gDE,List.getElem?_eq_none h]at hr;cases hr
    have hn: ∀id' q,(Ae (s.r.set id (.arr false (.osl u) d (My xs))) id' q).len=(Ae s.r id' q).len:=by
     intro id' q;by_cases he:id'=id
     ·subst he
      unfold Ae;have e:(s.r.set id' (.arr false (.osl u) d (My xs))).getD id' .dead= .arr false (.osl u) d (My xs):=by simp [hid]
      rw [e,hr];exact VV hu q
     ·rw [BK he]
    have hσ:(s.r.set id (.arr false (.osl u) d (My xs))).map Ac.v=s.r.map Ac.v:=by
     rw [List.map_set,Z8,<-hr];apply List.ext_getElem?;intro i;rw [List.getElem?_set];split
     ·rename_i e
      subst e;simp [hid]
     ·rfl
    refine⟨?_,fun g=>?_⟩
    ·show(LU l _).den=_
     rw [h1];unfold St.den;simp only [hσ]
     congr 1
     funext i
     exact Sl.v_lens hn _
    ·refine Kp.trans (s1:=⟨s.t,s.r.set id (.arr false (.osl u) d (My xs))⟩) (g1:=g) (g2:=g) ⟨fun i _ _=>rfl,fun id' _ hro=>?_,by simp⟩ (h2 g) (fun _ h=>h) fun _ h=>h
     have hne:id≠id':=by
      rintro rfl
      rw [hr]at hro;cases hro
     simp only [gDE,List.getElem?_set_ne hne]
  ·exact Hw l s
noncomputable def BB(H:Code->{R:Type}->St->(Exit->St->Option R)->Option R)(E:AW):Code->{R:Type}->St->(Exit->St->Option R)->Option R
 | .skip,_,s,K=>K .normal s
 | .region _ ops false,_,s,K=>Xh E.toEnv ops (UN ops.size ops.toList) s (K .normal)
 | .region id ops true,_,s,K=>ZD E.toEnv (headN E id ops) ops s (K .normal)
 | .seq a b,_,s,K=>BB H E a s fun e s'=>match e with
  | .normal=>BB H E b s' K
  | .exit id=>K (.exit id) s'
  | .ret=>K .ret s'
  | .goto l=>K (.goto l) s'
  |_=>none
 | .cond c x y,_,s,K=>match s.ev c with
  |some (.one (.c .bool _ b))=>Pb b (BB H E x s K) (BB H E y s K)
  |_=>none
 | .block id b,_,s,K=>BB H E b s fun e s'=>match e with
  | .exit i=>bif Nat.beq i id then K .normal s' else K (.exit i) s'
  | .normal=>K .normal s'
  | .ret=>K .ret s'
  | .goto l=>K (.goto l) s'
  |_=>none
 | .loop b,R,s0,K=>match LU (ozOf E.dn (Bp b)) s0 with
  |s=>match Uc s E.lp (Bp b)with
  |(L,Rh)=>bif HA (AG b) L Rh s then(match Yl L Rh s s E.h.keep with
   |some cs=>match toX (cs.map (·.t)) cs with
    |some x=>H9 (Au (fun x=>BB H E b (A6 true (AG b) L Rh s (ofX (cs.map (·.t)) x)) (Uk L Rh s E.h.keep (cs.map (·.t)) K)) x) (Yt b L Rh s (cs.map (·.t)) K)
    |none=>none
   |none=>none)else none
 | .exit id,_,s,K=>K (.exit id) s
 | .label _,_,s,K=>K .normal s
 | .goto l,_,s,K=>K (.goto l) s
 | .ret,_,s,K=>K .ret s
 | .scope c,_,s,K=>H c s K
 |_,_,_,_=>none
def Bi:Code->List Nat
 | .seq a b=>Bi a++Bi b
 | .label l=>[l]
 |_=>[]
def BI:Code->Nat->Option Code
 | .seq a b,l=>match a with
  | .label l'=>bif Nat.beq l' l then some b else BI b l
  |_=>BI b l
 |_,_=>none
def NA:List Nat->Bool
 | []=>true
 |a::l=>!l.contains a&&NA l
theorem Nz: ∀ {l:List Nat},NA l=true->l.Nodup
 | [],_=>List.nodup_nil
 |a::l,h=>by
  have h:(!l.contains a&&NA l)=true:=h;rw [bAE,Bool.not_eq_true']at h;exact List.nodup_cons.2 ⟨fun hm=>by rw [List.contains_eq_mem,decide_eq_false_iff_not]at h;exact h.1 hm,Nz h.2⟩
def OS:Code->Bool
 | .label _=>true
 |_=>false
def JM:Code->Bool
 | .seq a b=>(OS a||(Bi a).isEmpty)&&JM b
 |c=>(Bi c).isEmpty
@[reducible] def LO.fin1 {X R:Type}:LO X R->Option R
 | .ret r=>some r
 |_=>none
def Ut{R:Type}(L Rh:List Nat)(s:St)(keep:Nat)(tys:List Ty)(l:Nat)(s':St):Option (LO (Nat×(Bc tys).T) R):=match Yl L Rh s s' keep with
 |some cs=>match toX tys cs with
  |some x=>some (.next (l,x))
  |none=>none
 |none=>none
def Aaw{R:Type}(L Rh:List Nat)(s:St)(keep:Nat)(tys:List Ty)(K:Exit->St->Option R)(e:Exit)(s':St):Option (LO (Nat×(Bc tys).T) R):=match e with
 | .goto l=>Ut L Rh s keep tys l s'
 | .normal=>By (K .normal s')
 | .exit id=>By (K (.exit id) s')
 | .ret=>By (K .ret s')
 |_=>none
noncomputable def DT(E:AW):Code->{R:Type}->St->(Exit->St->Option R)->(Nat->St->Option R)->Option R
 | .seq a b,_,s,K,KL=>match a with
  | .label l=>KL l s
  |a=>BB (fun _ _ _ _=>none) E a s fun e s'=>match e with
   | .normal=>DT E b s' K KL
   | .exit id=>K (.exit id) s'
   | .ret=>K .ret s'
   | .goto l=>K (.goto l) s'
   |_=>none
 |c,_,s,K,_=>BB (fun _ _ _ _=>none) E c s K
noncomputable def Ip(E:AW)(c:Code)(ops:List Oper)(L Rh:List Nat)(s:St)(tys:List Ty){R:Type}(K:Exit->St->Option R)(l:Nat)(x:(Bc tys).T):List Nat->Option (LO (Nat×(Bc tys).T) R)
 | []=>none
 |i::ls=>nif l i (match BI c i with
  |some rest=>DT E rest (A6 true ops L Rh s (ofX tys x)) (Aaw L Rh s E.h.keep tys K) (Ut L Rh s E.h.keep tys)
  |none=>none) (Ip E c ops L Rh s tys K l x ls)
def Y3{R:Type}(K:Exit->St->Option R)(e:Exit)(s:St):Option R:=match e with
 | .goto _=>none
 |e=>K e s
noncomputable def Vv(E:AW)(c:Code){R:Type}(s:St)(K:Exit->St->Option R):Option R:=bif JM c&&NA (Bi c)then DT E c s (Y3 K) fun l s1=>match BI c l with
  |some c1=>match Uc s1 E.lp (Bp c)with
   |(L,Rh)=>bif HA (AG c1) L Rh s1 then(match Yl L Rh s1 s1 E.h.keep with
    |some cs=>match toX (cs.map (·.t)) cs with
     |some x=>H9 (Au (fun y=>Ip E c (AG c1) L Rh s1 (cs.map (·.t)) K y.1 y.2 (Bi c)) (l,x)) LO.fin1
     |none=>none
    |none=>none)else none
  |none=>none else none
noncomputable def Xy(E:AW):Code->{R:Type}->St->(Exit->St->Option R)->Option R:=BB (Vv E) E
theorem JD{t0:Nat->Sl}: ∀ (L:List Nat) (cs:List Dy) (t:Nat->Sl) (i:Nat),L.contains i=false->(J5 t0 L cs t).1 i=t i
 | [],cs,t,i,_=>rfl
 |d::L,cs,t,i,h=>by
  rw [List.contains_cons,Bool.or_eq_false_iff]at h;unfold J5;rw [JD L _ _ i h.2];have hne:i≠d:=by
   intro e;subst e;simp at h
  exact A1 hne
theorem HL{r0:List Ac}: ∀ (Rh:List Nat) (cs:List Dy) (r:List Ac) (i:Nat),Rh.contains i=false->(Hb r0 Rh cs r).getD i .dead=r.getD i .dead
 | [],cs,r,i,_=>rfl
 |d::L,cs,r,i,h=>by
  rw [List.contains_cons,Bool.or_eq_false_iff]at h;unfold Hb;rw [HL L _ _ i h.2];have hne:d≠i:=by
   intro e;subst e;simp at h
  simp only [gDE,List.getElem?_set_ne hne]
theorem HK{r0:List Ac}: ∀ (Rh:List Nat) (cs:List Dy) (r:List Ac),(Hb r0 Rh cs r).length=r.length
 | [],cs,r=>rfl
 |d::L,cs,r=>by unfold Hb;rw [HK L,List.length_set]
theorem OV{ro:Bool}{b:List Oper}{L Rh:List Nat}{s:St}{cs:List Dy}(h:HA b L Rh s=true):Kp (Aq b) s (A6 ro b L Rh s cs):=by
 unfold HA at h;rw [bAE]at h;refine⟨fun i hi hs=>?_,fun id hl hid=>?_,?_⟩
 ·have hc:L.contains i=false:=by
   cases hc:L.contains i with
   |false=>rfl
   |true=>
    have:=aET.1 h.1 i (by simpa using hc)
    rw [hi,hs]at this;cases this
  show(J5 s.t L cs _).1 i=_;rw [JD L _ _ i hc];show(bif Aq b i&&(s.t i).stay then s.t i else _)=_;rw [hi,hs];rfl
 ·have hc:Rh.contains id=false:=by
   cases hc:Rh.contains id with
   |false=>rfl
   |true=>
    have:=aET.1 h.2 id (by simpa using hc)
    rw [hid]at this;cases this
  show(Hb s.r Rh _ (bif ro then s.r.map Bx else s.r)).getD id .dead=_;rw [HL Rh _ _ id hc];cases ro with
  |false=>rfl
  |true=>
   show(s.r.map Bx).getD id .dead=_
   have e:(s.r.map Bx).getD id .dead=Bx (s.r.getD id .dead):=by
    simp only [gDE,List.getElem?_map];cases s.r[id]? <;>rfl
   rw [e];generalize s.r.getD id .dead=x at hid;cases x with
   |dead=>rfl
   |obj ro l=>have hid:ro=true:=hid;subst hid;rfl
   |arr ro t d xs=>have hid:ro=true:=hid;subst hid;rfl
   |opt ro t d xs=>have hid:ro=true:=hid;subst hid;rfl
 ·show s.r.length<=(Hb s.r Rh _ (bif ro then s.r.map Bx else s.r)).length
  rw [HK];cases ro<;>simp
theorem KK{b:List Oper}{L Rh:List Nat}{s s':St}{cs:List Dy}(hk:Kp (Aq b) (A6 true b L Rh s cs) s'):
  (∀i,L.contains i=false->Aq b i=true->(s.t i).stay=true->s'.t i=s.t i)/\
  (∀id,id<s.r.length->Rh.contains id=false->(s'.r.getD id .dead).v=(s.r.getD id .dead).v/\(s'.r.getD id .dead).len=(s.r.getD id .dead).len)/\
  (∀id,id<s.r.length->Rh.contains id=false->∀q:AU,((s'.r.getD id .dead).at' q).len=((s.r.getD id .dead).at' q).len):=by
 have hR: ∀id,id<s.r.length->Rh.contains id=false->s'.r.getD id .dead=Bx (s.r.getD id .dead):=fun id hl hc=>by
  have e:(A6 true b L Rh s cs).r.getD id .dead=Bx (s.r.getD id .dead):=by
   show(Hb s.r Rh _ (s.r.map Bx)).getD id .dead=_;rw [HL Rh _ _ id hc];simp only [gDE,List.getElem?_map];cases s.r[id]? <;>rfl
  have hro:(Bx (s.r.getD id .dead)).isRo=true:=by cases s.r.getD id .dead<;>rfl
  have hlen:(A6 true b L Rh s cs).r.length=s.r.length:=by
   show(Hb s.r Rh _ (s.r.map Bx)).length=_;rw [HK,List.length_map]
  rw [hk.r id (by rw [hlen];exact hl) (by rw [e];exact hro),e]
 refine⟨fun i hc hi hs=>?_,fun id hl hc=>?_,fun id hl hc q=>by rw [hR id hl hc];exact YB q _ _ (I7 _)⟩
 ·have e:(A6 true b L Rh s cs).t i=s.t i:=by
   show(J5 s.t L cs _).1 i=_;rw [JD L _ _ i hc];show(bif Aq b i&&(s.t i).stay then s.t i else _)=_;rw [hi,hs];rfl
  rw [hk.t i hi (by rw [e];exact hs),e]
 ·have e:(A6 true b L Rh s cs).r.getD id .dead=Bx (s.r.getD id .dead):=by
   show(Hb s.r Rh _ (s.r.map Bx)).getD id .dead=_;rw [HL Rh _ _ id hc];simp only [gDE,List.getElem?_map];cases s.r[id]? <;>rfl
  have hro:(Bx (s.r.getD id .dead)).isRo=true:=by cases s.r.getD id .dead<;>rfl
  have hlen:(A6 true b L Rh s cs).r.length=s.r.length:=by
   show(Hb s.r Rh _ (s.r.map Bx)).length=_;rw [HK,List.length_map]
  rw [hk.r id (by rw [hlen];exact hl) (by rw [e];exact hro),e]
  exact LA _
theorem N4{R:Type}{K:Exit->St->Option R}{z:R}{s:St}: ∀ (l:List Nat) (id:Nat),brkK K l id s=some z->K (.exit id) s=some z
 | [],id,h=>by cases h
 |i::l,id,h=>by
  have h:(if id=i then K (.exit i) s else brkK K l id s)=some z:=h
  split at h
  ·rename_i e;subst e;exact h
  ·exact N4 l id h
theorem Aae{P:Program}{H:Code->{R:Type}->St->(Exit->St->Option R)->Option R}{E:AW}{C:Ctx}(hkeep:C.m<=E.h.keep){b:Code}
  (ih: ∀ {R:Type} (s:St) (K:Exit->St->Option R) (z:R) (Q:Exit->Act->World->Prop) (a:Act) (w:World),AV C E.h.n s.den a w->BB H E b s K=some z->(∀e s' a' w',Kp (Aq (AG b)) s s'->AV C E.h.n s'.den a' w'->K e s'=some z->Q e a' w')->b.wp P Q a w)
  {R:Type} {s:St} {K:Exit->St->Option R} {z:R} {Q:Exit->Act->World->Prop} {a:Act} {w:World} (hs:AV C E.h.n s.den a w) {L Rh:List Nat} (hok:HA (AG b) L Rh s=true) {tys:List Ty} {cs:List Dy} (hcs:Yl L Rh s s E.h.keep=some cs) {x0:(Bc tys).T} (hx0':ofX tys x0=cs)
  (h:(Au (fun x=>BB H E b (A6 true (AG b) L Rh s (ofX tys x)) (Uk L Rh s E.h.keep tys K)) x0).bind (Yt b L Rh s tys K)=some z)
  (hQ: ∀e s' a' w',Kp (Aq (AG b)) s s'->AV C E.h.n s'.den a' w'->K e s'=some z->Q e a' w'):(Code.loop b).wp P Q a w:=by
 obtain⟨hd0,hdd0,D0,ρ0,F0,hcr0⟩:=id hs;have hml:C.m<=s.r.length:=by have:=hcr0.ml;simpa [St.den]using this
 let body:(Bc tys).T->Option (LO (Bc tys).T R):=fun x=>BB H E b (A6 true (AG b) L Rh s (ofX tys x)) (Uk L Rh s E.h.keep tys K)
 have h:(Au body x0).bind (Yt b L Rh s tys K)=some z:=h;cases hl:Au body x0 with
 |none=>rw [hl]at h;cases h
 |some o0=>
  rw [hl]at h;have h:Yt b L Rh s tys K o0=some z:=h;obtain⟨n0,hn0⟩:=Cg.1 hl
  have h0:AV C E.h.n (A6 true (AG b) L Rh s (ofX tys x0)).den a w:=by
   rw [hx0'];exact JC hs hcs hkeep hml (fun _ _ _ _=>rfl) (fun _ _ _=>⟨rfl,rfl⟩) fun _ _ _ _=>rfl
  let I':Act->World->Prop:=fun a w=>∃x n o,Cf body x o n/\Yt b L Rh s tys K o=some z/\AV C E.h.n (A6 true (AG b) L Rh s (ofX tys x)).den a w
  have hmin: ∀ (a:Act) (w:World),∃k,I' a w->(∃x n o,Cf body x o n/\Yt b L Rh s tys K o=some z/\AV C E.h.n (A6 true (AG b) L Rh s (ofX tys x)).den a w/\n=k)/\∀x n o,Cf body x o n->Yt b L Rh s tys K o=some z->AV C E.h.n (A6 true (AG b) L Rh s (ofX tys x)).den a w->k<=n:=by
   intro a w;by_cases hI:I' a w
   ·obtain⟨x,n,o,g1,g2,g3⟩:=hI
    obtain⟨k,hk,hlt⟩:=Ul (p:=fun k=>∃x n o,Cf body x o n/\Yt b L Rh s tys K o=some z/\AV C E.h.n (A6 true (AG b) L Rh s (ofX tys x)).den a w/\n=k) ⟨n,x,n,o,g1,g2,g3,rfl⟩
    exact⟨k,fun _=>⟨hk,fun x n o g1 g2 g3=>Nat.le_of_not_lt fun hl=>hlt n hl ⟨x,n,o,g1,g2,g3,rfl⟩⟩⟩
   ·exact⟨0,fun h=>absurd h hI⟩
  let μ':Act->World->Nat:=fun a w=>Classical.choose (hmin a w)
  have hμ':=fun a w hI=>Classical.choose_spec (hmin a w) hI
  refine wp_loop I' μ' ⟨x0,n0,o0,hn0,h,h0⟩ fun a w hI=>?_
  obtain⟨⟨x,n,o,g1,g2,g3,hn⟩,_⟩:=hμ' a w hI;have hn:n=μ' a w:=hn
  -- the round's own answer
  have hround: ∃lo,body x=some lo/\((∃y n',lo= .next y/\Cf body y o n'/\n=n'+1)\/(lo=o)):=by
   cases g1 with
   |brk h'=>exact⟨_,h',.inr rfl⟩
   |ret h'=>exact⟨_,h',.inr rfl⟩
   |step h' h2=>exact⟨_,h',.inl ⟨_,_,rfl,h2,rfl⟩⟩
  obtain⟨lo,hlo,hcase⟩:=hround;refine ih _ _ lo _ a w g3 hlo fun e s' a' w' hk hs' hz=>?_
  obtain⟨f1,f2,f3⟩:=KK hk;have hk0:Kp (Aq (AG b)) s s':=Kp.trans (OV hok) hk (fun _ h=>h) fun _ h=>h
  cases e with
  |normal=>
   unfold Uk at hz;simp only at hz;split at hz
   case h_2=>cases hz
   rename_i cs2 hcs2;split at hz
   case h_2=>cases hz
   rename_i x2 hx2;cases hz;rcases hcase with⟨y,n',he,hl2,hnn⟩|he
   ·cases he
    have hs2:AV C E.h.n (A6 true (AG b) L Rh s (ofX tys x2)).den a' w':=by
     rw [Qx _ _ _ hx2];exact JC hs' hcs2 hkeep hml f1 f2 f3
    have hI2:I' a' w':=⟨x2,n',o,hl2,g2,hs2⟩;refine⟨hI2,?_⟩;have:=(hμ' a' w' hI2).2 x2 n' o hl2 g2 hs2;have:μ' a' w'<=n':=this;omega
   ·subst he
    cases g2
  |exit id=>
   unfold Uk at hz;simp only at hz;split at hz
   case h_2=>cases hz
   rename_i cs2 hcs2;split at hz
   case h_2=>cases hz
   rename_i x2 hx2;cases hz;rcases hcase with⟨y,n',he,_⟩|he
   ·cases he
   ·subst he
    have g2:brkK K (NO b).eraseDups id (A6 false (AG b) L Rh s (ofX tys x2))=some z:=g2
    have hs2:AV C E.h.n (A6 false (AG b) L Rh s (ofX tys x2)).den a' w':=by
     rw [Qx _ _ _ hx2];exact JC hs' hcs2 hkeep hml f1 f2 f3
    exact hQ _ _ _ _ (OV hok) hs2 (N4 _ _ g2)
  |ret=>
   have hz:(K .ret s').map LO.ret=some lo:=hz;cases hkr:K .ret s' with
   |none=>rw [hkr]at hz;cases hz
   |some r=>
    rw [hkr]at hz;cases hz;rcases hcase with⟨y,n',he,_⟩|he
    ·cases he
    ·subst he
     cases g2;exact hQ _ _ _ _ hk0 hs' hkr
  |goto l=>cases hz
  |panic ch=>cases hz
  |outgrown=>cases hz
def JX(P:Program)(E:AW)(C:Ctx)(H:Code->{R:Type}->St->(Exit->St->Option R)->Option R):Prop:=
 ∀ (c:Code) {R:Type} (s:St) (K:Exit->St->Option R) (z:R) (Q:Exit->Act->World->Prop) (a:Act) (w:World),AV C E.h.n s.den a w->H c s K=some z->
  (∀e s' a' w',Kp (Aq (AG c)) s s'->AV C E.h.n s'.den a' w'->K e s'=some z->Q e a' w')->(Code.scope c).wp P Q a w
theorem MH{P:Program}{H:Code->{R:Type}->St->(Exit->St->Option R)->Option R}{E:AW}{C:Ctx}(hE:EOK P E.toEnv)(hm:P.follows .mixedOrders=true)(hkeep:C.m<=E.h.keep)(hH:JX P E C H): ∀ (c:Code) {R:Type} (s:St) (K:Exit->St->Option R) (z:R) (Q:Exit->Act->World->Prop) (a:Act) (w:World),AV C E.h.n s.den a w->BB H E c s K=some z->
  (∀e s' a' w',Kp (Aq (AG c)) s s'->AV C E.h.n s'.den a' w'->K e s'=some z->Q e a' w')->c.wp P Q a w:=by
 intro c
 induction c with
 |skip=>intro R s K z Q a w hs h hQ;exact wp_skip (hQ _ _ _ _ (Kp.refl _ _) hs h)
 |region id ops draw=>
  intro R s K z Q a w hs h hQ;cases draw with
  |false=>
   have h:Xh E.toEnv ops (UN ops.size ops.toList) s (K .normal)=some z:=h;refine wp_region_list ?_;have:=U1 hE (ops:=ops) (Q:=Q) _ s a w hs h fun s' a' w' hk hs' hz=>hQ .normal s' a' w' (by rw [B4]at hk;exact hk) hs' hz
   rw [B4]at this;exact this
  |true=>exact Xz hE hm hs h fun s' a' w' hk hs' hz=>hQ .normal s' a' w' hk hs' hz
 |seq x y ihx ihy=>
  intro R s K z Q a w hs h hQ
  have hsp: ∀i,Aq (AG (.seq x y)) i=true->Aq (AG x) i=true/\Aq (AG y) i=true:=fun i hi=>by
   have hi:Aq (AG x++AG y) i=true:=hi;rw [Dw,bAE]at hi;exact hi
  refine wp_seq (ihx s _ z _ a w hs h fun e s' a' w' hk hs' hz=>?_)
  have hk':Kp (Aq (AG (.seq x y))) s s':=hk.weak fun i hi=>(hsp i hi).1
  cases e with
  |normal=>exact ihy s' K z Q a' w' hs' hz fun e2 s2 a2 w2 hk2 hs2 hz2=>hQ e2 s2 a2 w2 (hk.trans hk2 (fun i hi=>(hsp i hi).1) fun i hi=>(hsp i hi).2) hs2 hz2
  |exit id=>exact hQ _ _ _ _ hk' hs' hz
  |ret=>exact hQ _ _ _ _ hk' hs' hz
  |goto l=>exact hQ _ _ _ _ hk' hs' hz
  |panic ch=>cases hz
  |outgrown=>cases hz
 |cond c x y ihx ihy=>
  intro R s K z Q a w hs h hQ
  have hsp: ∀i,Aq (AG (.cond c x y)) i=true->Aq (AG x) i=true/\Aq (AG y) i=true:=fun i hi=>by
   have hi:Aq (AG x++AG y) i=true:=hi;rw [Dw,bAE]at hi;exact hi
  have h:(match s.ev c with
   |some (.one (.c .bool _ b))=>bif b then BB H E x s K else BB H E y s K
   |_=>none)=some z:=h
  split at h
  ·rename_i d b hb
   obtain⟨hdd,D,ρ,F,hcr⟩:=hs.2;have h1:=Cd hcr hdd c;rw [A5 hb]at h1;refine wp_cond (t:=b) h1.1 ?_;cases b with
   |true=>exact ihx s K z Q a w hs h fun e s' a' w' hk=>hQ e s' a' w' (hk.weak fun i hi=>(hsp i hi).1)
   |false=>exact ihy s K z Q a w hs h fun e s' a' w' hk=>hQ e s' a' w' (hk.weak fun i hi=>(hsp i hi).2)
  ·cases h
 |block id b ih=>
  intro R s K z Q a w hs h hQ;refine wp_block (ih s _ z _ a w hs h fun e s' a' w' hk hs' hz=>?_)
  cases e with
  |exit id'=>
   simp only [Exit.inBlock];have hz:(bif Nat.beq id' id then K .normal s' else K (.exit id') s')=some z:=hz;by_cases he:id'=id
   ·subst he
    rw [Nat.beq_refl]at hz;rw [if_pos rfl];exact hQ _ _ _ _ hk hs' hz
   ·rw [Bt he]at hz
    rw [if_neg he];exact hQ _ _ _ _ hk hs' hz
  |normal=>exact hQ _ _ _ _ hk hs' hz
  |ret=>exact hQ _ _ _ _ hk hs' hz
  |goto l=>exact hQ _ _ _ _ hk hs' hz
  |panic ch=>cases hz
  |outgrown=>cases hz
 |loop b ih=>
  intro R s0 K z Q a w hs h hQ;unfold BB at h;obtain⟨s,hso⟩: ∃s,s=LU (ozOf E.dn (Bp b)) s0:=⟨_,rfl⟩;rw [<-hso]at h;obtain⟨hden,hkp⟩:=Hw (ozOf E.dn (Bp b)) s0;rw [<-hso]at hden hkp;rw [<-hden]at hs;have hQ: ∀e s' a' w',Kp (Aq (AG (.loop b))) s s'->AV C E.h.n s'.den a' w'->K e s'=some z->Q e a' w':=fun e s' a' w' hk=>hQ e s' a' w' ((hkp _).trans hk (fun _ h=>h) fun _ h=>h)
  have h:(match Uc s E.lp (Bp b)with
   |(L,Rh)=>bif HA (AG b) L Rh s then(match Yl L Rh s s E.h.keep with
    |some cs=>match toX (cs.map (·.t)) cs with
     |some x=>H9 (Au (fun x=>BB H E b (A6 true (AG b) L Rh s (ofX (cs.map (·.t)) x)) (Uk L Rh s E.h.keep (cs.map (·.t)) K)) x) (Yt b L Rh s (cs.map (·.t)) K)
     |none=>none
    |none=>none)else none)=some z:=h
  split at h
  rename_i L Rh hlp;cases hok:HA (AG b) L Rh s with
  |false=>rw [hok]at h;cases h
  |true=>
   rw [hok]at h;simp only [cond_true]at h;split at h
   case h_2=>cases h
   rename_i cs hcs;split at h
   case h_2=>cases h
   rename_i x0 hx0;have hx0':=Qx _ _ _ hx0;exact Aae hkeep ih hs hok hcs hx0' h hQ
 |exit id=>intro R s K z Q a w hs h hQ;exact wp_exit (hQ _ _ _ _ (Kp.refl _ _) hs h)
 |label l=>intro R s K z Q a w hs h hQ;exact wp_label (hQ _ _ _ _ (Kp.refl _ _) hs h)
 |ret=>intro R s K z Q a w hs h hQ;exact wp_ret (hQ _ _ _ _ (Kp.refl _ _) hs h)
 |goto l=>intro R s K z Q a w hs h hQ;exact wp_goto (hQ _ _ _ _ (Kp.refl _ _) hs h)
 |rangeFunc f ps x y _ _=>intro R s K z Q a w hs h hQ;cases h
 |scope c _=>intro R s K z Q a w hs h hQ;exact hH c s K z Q a w hs h hQ
 |refuse s=>intro R s K z Q a w hs h hQ;cases h
theorem Le{P:Program}{a:Act}{w:World}{Q:Exit->Act->World->Prop}{c:Code}(J:Nat->Act->World->Prop)(μ:Nat->Act->World->Nat)
  (first:c.wp P (fun e a w=>match e with
   | .goto l=>(∃r,findLabel c l=some r)/\J l a w
   |e=>Q e a w) a w)
  (pass: ∀l r a w,findLabel c l=some r->J l a w->r.wp P (fun e a' w'=>match e with
   | .goto l'=>(∃r',findLabel c l'=some r')/\J l' a' w'/\μ l' a' w'<μ l a w
   |e=>Q e a' w') a w):(Code.scope c).wp P Q a w:=by
 intro b k cs;have hg: ∀l r,findLabel c l=some r->gotoIn l (.inScope c::k)=some (.code r:: .inScope c::k):=fun l r hf=>by simp [gotoIn,hf]
 have key: ∀n l r a w,findLabel c l=some r->μ l a w=n->J l a w->∃e a' w',Q e a' w'/\Arrives P (lone (b.at a (.code r:: .inScope c::k)) cs w) b k cs e a' w':=by
  intro n
  induction n using Nat.strongRecOn with
  |_ n ih=>
   intro l r a w hf hn hJ;obtain⟨e,a₁,w₁,hq,harr⟩:=pass l r a w hf hJ b (.inScope c::k) cs;cases e with
   |normal=>exact⟨.normal,a₁,w₁,hq,Steps.trans harr (.one step_inScope)⟩
   |exit id=>exact⟨.exit id,a₁,w₁,hq,fun k' hk=>harr k' (by simp [exitTo,hk])⟩
   |goto l'=>
    obtain⟨⟨r',hf'⟩,hJ',hlt⟩:=hq;obtain⟨e₂,a₂,w₂,hq₂,harr₂⟩:=ih _ (by omega) l' r' a₁ w₁ hf' rfl hJ'
    exact⟨e₂,a₂,w₂,hq₂,.of_steps (harr _ (hg l' r' hf')) harr₂⟩
   |ret=>exact⟨_,a₁,w₁,hq,harr⟩
   |panic ch=>exact⟨_,a₁,w₁,hq,harr⟩
   |outgrown=>exact⟨_,a₁,w₁,hq,harr⟩
 obtain⟨e,a₁,w₁,hq,harr⟩:=first b (.inScope c::k) cs
 cases e with
 |normal=>exact⟨.normal,a₁,w₁,hq,.head step_scope (Steps.trans harr (.one step_inScope))⟩
 |exit id=>exact⟨.exit id,a₁,w₁,hq,fun k' hk=>.head step_scope (harr k' (by simp [exitTo,hk]))⟩
 |goto l'=>
  obtain⟨⟨r',hf'⟩,hJ'⟩:=hq;obtain⟨e₂,a₂,w₂,hq₂,harr₂⟩:=key _ l' r' a₁ w₁ hf' rfl hJ';exact⟨e₂,a₂,w₂,hq₂,.of_steps (.head step_scope (harr _ (hg l' r' hf'))) harr₂⟩
 |ret=>exact⟨_,a₁,w₁,hq,.of_steps (.one step_scope) harr⟩
 |panic ch=>exact⟨_,a₁,w₁,hq,.of_steps (.one step_scope) harr⟩
 |outgrown=>exact⟨_,a₁,w₁,hq,.of_steps (.one step_scope) harr⟩
theorem CN{a b:Code}(h: ¬∃l,a= .label l)(l:Nat):BI (.seq a b) l=BI b l:=by
 cases a<;>first|rfl|exact absurd ⟨_,rfl⟩ h
theorem Qy{E:AW}{a b:Code}(h: ¬∃l,a= .label l){R:Type}(s:St)(K:Exit->St->Option R)(KL:Nat->St->Option R):DT E (.seq a b) s K KL=BB (fun _ _ _ _=>none) E a s fun e s'=>match e with
   | .normal=>DT E b s' K KL
   | .exit id=>K (.exit id) s'
   | .ret=>K .ret s'
   | .goto l=>K (.goto l) s'
   |_=>none:=by
 cases a<;>first|rfl|exact absurd ⟨_,rfl⟩ h
theorem D9: ∀ (c:Code) (l:Nat),(Bi c).isEmpty=true->findLabel c l=none
 | .seq a b,l,h=>by
  have h:(Bi a++Bi b).isEmpty=true:=h;rw [List.isEmpty_iff,List.append_eq_nil_iff]at h;have h:(Bi a).isEmpty=true/\(Bi b).isEmpty=true:=⟨by rw [h.1];rfl,by rw [h.2];rfl⟩
  unfold findLabel;rw [D9 a l h.1,D9 b l h.2]
 | .label l',l,h=>by cases h
 | .skip,_,_=>rfl
 | .region ..,_,_=>rfl
 | .cond ..,_,_=>rfl
 | .block ..,_,_=>rfl
 | .loop ..,_,_=>rfl
 | .exit ..,_,_=>rfl
 | .goto ..,_,_=>rfl
 | .ret,_,_=>rfl
 | .scope ..,_,_=>rfl
 | .rangeFunc ..,_,_=>rfl
 | .refuse ..,_,_=>rfl
theorem IF{P:Program}: ∀ (c b:Code) (l:Nat),JM c=true->BI c l=some b->∃r,findLabel c l=some r/\∀Q a w,b.wp P Q a w->r.wp P Q a w
 | .seq a b',b,l,hc,h=>by
  have hc:((OS a||(Bi a).isEmpty)&&JM b')=true:=hc;rw [bAE,Bool.or_eq_true]at hc;by_cases hl: ∃l',a= .label l'
  ·obtain⟨l',rfl⟩:=hl
   have h:(bif Nat.beq l' l then some b' else BI b' l)=some b:=h;cases he:Nat.beq l' l with
   |true=>
    rw [he]at h;have e:l'=l:=bqE he;subst e;obtain rfl:b'=b:=Option.some.inj h;exact⟨.seq .skip b',by simp [findLabel],fun Q a w hw=>wp_seq (wp_skip hw)⟩
   |false=>
    rw [he]at h;obtain⟨r,h1,h2⟩:=IF b' b l hc.2 h;refine⟨r,?_,h2⟩;have e:l'≠l:=fun e=>by subst e;rw [Nat.beq_refl]at he;cases he
    simp [findLabel,e,h1]
  ·rw [CN hl]at h
   obtain⟨r,h1,h2⟩:=IF b' b l hc.2 h;refine⟨r,?_,h2⟩;have hn:findLabel a l=none:=by
    rcases hc.1 with h'|h'
    ·exfalso
     unfold OS at h';split at h'
     ·exact hl ⟨_,rfl⟩
     ·cases h'
    ·exact D9 a l h'
   unfold findLabel;rw [hn,h1]
 | .label ..,_,_,_,h=>by cases h
 | .skip,_,_,_,h=>by cases h
 | .region ..,_,_,_,h=>by cases h
 | .cond ..,_,_,_,h=>by cases h
 | .block ..,_,_,_,h=>by cases h
 | .loop ..,_,_,_,h=>by cases h
 | .exit ..,_,_,_,h=>by cases h
 | .goto ..,_,_,_,h=>by cases h
 | .ret,_,_,_,h=>by cases h
 | .scope ..,_,_,_,h=>by cases h
 | .rangeFunc ..,_,_,_,h=>by cases h
 | .refuse ..,_,_,_,h=>by cases h
def KP:Code->Option Nat
 | .seq a b=>match a with
  | .label l=>some l
  |_=>KP b
 |_=>none
theorem KO{a b:Code}(h: ¬∃l,a= .label l):KP (.seq a b)=KP b:=by
 cases a<;>first|rfl|exact absurd ⟨_,rfl⟩ h
theorem Ov{b r:Code}{l i:Nat}: ∀ {c:Code},KP c=some l->BI c l=some b->BI c i=some r->(i=l/\r=b)\/BI b i=some r:=by
 intro c
 induction c with
 |seq a b' iha ihb=>
  intro h1 h2 h3;by_cases hl: ∃l',a= .label l'
  ·obtain⟨l',rfl⟩:=hl
   have h1:some l'=some l:=h1;cases h1;have h2:(bif Nat.beq l l then some b' else BI b' l)=some b:=h2;rw [Nat.beq_refl]at h2;obtain rfl:b'=b:=Option.some.inj h2;have h3:(bif Nat.beq l i then some b' else BI b' i)=some r:=h3;cases he:Nat.beq l i with
   |true=>rw [he]at h3;cases h3;exact .inl ⟨(bqE he).symm,rfl⟩
   |false=>rw [he]at h3;exact .inr h3
  ·have e1:=KO (b:=b') hl
   have e2:=CN (b:=b') hl;rw [e1]at h1;rw [e2]at h2 h3;exact ihb h1 h2 h3
 |_=>intro h1;cases h1
theorem Je{i:Nat}: ∀ (c b:Code) (l:Nat),BI c l=some b->Aq (AG c) i=true->Aq (AG b) i=true:=by
 intro c
 induction c with
 |seq a b' iha ihb=>
  intro b l h hi;have hi:Aq (AG a++AG b') i=true:=hi;rw [Dw,bAE]at hi;by_cases hl: ∃l',a= .label l'
  ·obtain⟨l',rfl⟩:=hl
   have h:(bif Nat.beq l' l then some b' else BI b' l)=some b:=h;cases he:Nat.beq l' l with
   |true=>rw [he]at h;cases h;exact hi.2
   |false=>rw [he]at h;exact ihb b l h hi.2
  ·rw [CN hl]at h;exact ihb b l h hi.2
 |_=>intro b l h;cases h
theorem JX.none{P:Program}{E:AW}{C:Ctx}:JX P E C (fun _ _ _ _=>.none):=fun _ _ _ _ _ _ _ _ _ h=>by cases h
theorem MG{P:Program}{E:AW}{C:Ctx}(hE:EOK P E.toEnv)(hm:P.follows .mixedOrders=true)(hkeep:C.m<=E.h.keep): ∀ (c:Code) {R:Type} (s:St) (K:Exit->St->Option R) (KL:Nat->St->Option R) (z:R) (Q:Exit->Act->World->Prop) (a:Act) (w:World),AV C E.h.n s.den a w->DT E c s K KL=some z->
  (∀e s' a' w',Kp (Aq (AG c)) s s'->AV C E.h.n s'.den a' w'->K e s'=some z->Q e a' w')->
  (∀l b s' a' w',Kp (Aq (AG c)) s s'->AV C E.h.n s'.den a' w'->KL l s'=some z->KP c=some l->BI c l=some b->b.wp P Q a' w')->c.wp P Q a w:=by
 have base: ∀ (c:Code) {R:Type} (s:St) (K:Exit->St->Option R) (z:R) (Q:Exit->Act->World->Prop) (a:Act) (w:World),AV C E.h.n s.den a w->BB (fun _ _ _ _=>.none) E c s K=some z->
  (∀e s' a' w',Kp (Aq (AG c)) s s'->AV C E.h.n s'.den a' w'->K e s'=some z->Q e a' w')->c.wp P Q a w:=MH hE hm hkeep JX.none
 intro c
 induction c with
 |seq x y ihx ihy=>
  intro R s K KL z Q a w hs h hQ hL
  have hsp: ∀i,Aq (AG (.seq x y)) i=true->Aq (AG x) i=true/\Aq (AG y) i=true:=fun i hi=>by
   have hi:Aq (AG x++AG y) i=true:=hi;rw [Dw,bAE]at hi;exact hi
  by_cases hl: ∃l,x= .label l
  ·obtain⟨l,rfl⟩:=hl
   have h:KL l s=some z:=h;exact wp_seq (wp_label (hL l y s a w (Kp.refl _ _) hs h rfl (by show(bif Nat.beq l l then some y else BI y l)=_;rw [Nat.beq_refl];rfl)))
  ·have h:BB (fun _ _ _ _=>.none) E x s (fun e s'=>match e with
    | .normal=>DT E y s' K KL
    | .exit id=>K (.exit id) s'
    | .ret=>K .ret s'
    | .goto l=>K (.goto l) s'
    |_=>.none)=some z:=(Qy hl s K KL).symm.trans h
   have e1:=KO (b:=y) hl;have e2:=CN (b:=y) hl;refine wp_seq (base x s _ z _ a w hs h fun e s' a' w' hk hs' hz=>?_)
   have hk':Kp (Aq (AG (.seq x y))) s s':=hk.weak fun i hi=>(hsp i hi).1
   cases e with
   |normal=>
    exact ihy s' K KL z Q a' w' hs' hz (fun e2 s2 a2 w2 hk2 hs2 hz2=>hQ e2 s2 a2 w2 (hk.trans hk2 (fun i hi=>(hsp i hi).1) fun i hi=>(hsp i hi).2) hs2 hz2)
     fun l b s2 a2 w2 hk2 hs2 hz2 h1 h2=>hL l b s2 a2 w2 (hk.trans hk2 (fun i hi=>(hsp i hi).1) fun i hi=>(hsp i hi).2) hs2 hz2 (e1.trans h1) ((e2 l).trans h2)
   |exit id=>exact hQ _ _ _ _ hk' hs' hz
   |ret=>exact hQ _ _ _ _ hk' hs' hz
   |goto l=>exact hQ _ _ _ _ hk' hs' hz
   |panic ch=>cases hz
   |outgrown=>cases hz
 |skip=>intro R s K KL z Q a w hs h hQ _;exact base _ s K z Q a w hs h hQ
 |region=>intro R s K KL z Q a w hs h hQ _;exact base _ s K z Q a w hs h hQ
 |cond=>intro R s K KL z Q a w hs h hQ _;exact base _ s K z Q a w hs h hQ
 |block=>intro R s K KL z Q a w hs h hQ _;exact base _ s K z Q a w hs h hQ
 |loop=>intro R s K KL z Q a w hs h hQ _;exact base _ s K z Q a w hs h hQ
 |exit=>intro R s K KL z Q a w hs h hQ _;exact base _ s K z Q a w hs h hQ
 |label=>intro R s K KL z Q a w hs h hQ _;exact base _ s K z Q a w hs h hQ
 |ret=>intro R s K KL z Q a w hs h hQ _;exact base _ s K z Q a w hs h hQ
 |goto=>intro R s K KL z Q a w hs h hQ _;exact base _ s K z Q a w hs h hQ
 |rangeFunc=>intro R s K KL z Q a w hs h hQ _;exact base _ s K z Q a w hs h hQ
 |scope=>intro R s K KL z Q a w hs h hQ _;exact base _ s K z Q a w hs h hQ
 |refuse=>intro R s K KL z Q a w hs h hQ _;exact base _ s K z Q a w hs h hQ
theorem Jd{E:AW}{c:Code}{ops:List Oper}{L Rh:List Nat}{s:St}{tys:List Ty}{R:Type}{K:Exit->St->Option R}{l:Nat}{x:(Bc tys).T}{o:LO (Nat×(Bc tys).T) R}: ∀ (ls:List Nat),Ip E c ops L Rh s tys K l x ls=some o->
  ∃r,BI c l=some r/\DT E r (A6 true ops L Rh s (ofX tys x)) (Aaw L Rh s E.h.keep tys K) (Ut L Rh s E.h.keep tys)=some o
 | [],h=>by cases h
 |i::ls,h=>by
  have h:(if l=i then(match BI c i with
   |some rest=>DT E rest (A6 true ops L Rh s (ofX tys x)) (Aaw L Rh s E.h.keep tys K) (Ut L Rh s E.h.keep tys)
   | .none=>.none)else Ip E c ops L Rh s tys K l x ls)=some o:=h
  split at h
  ·rename_i e
   subst e;split at h
   ·rename_i r hr;exact⟨r,hr,h⟩
   ·cases h
  ·exact Jd ls h
theorem Vz{X R:Type}{o:Option R}{lo:LO X R}(h:By o=some lo): ∃z,o=some z/\lo= .ret z:=by
 cases o with
 |none=>cases h
 |some z=>cases h;exact⟨z,rfl,rfl⟩
theorem VA: ∀ {c b:Code} {l:Nat},BI c l=some b->l∈Bi c:=by
 intro c
 induction c with
 |seq a b' iha ihb=>
  intro b l h;show l∈Bi a++Bi b';by_cases hl: ∃l',a= .label l'
  ·obtain⟨l',rfl⟩:=hl
   have h:(bif Nat.beq l' l then some b' else BI b' l)=some b:=h;cases he:Nat.beq l' l with
   |true=>rw [<-bqE he];simp [Bi]
   |false=>rw [he]at h;exact List.mem_append_right _ (ihb h)
  ·rw [CN hl]at h;exact List.mem_append_right _ (ihb h)
 |_=>intro b l h;cases h
theorem QV: ∀ {c b r:Code} {l i:Nat},(Bi c).Nodup->BI c l=some b->BI b i=some r->BI c i=some r:=by
 intro c
 induction c with
 |seq a b' iha ihb=>
  intro b r l i hn h1 h2;have hn:(Bi a++Bi b').Nodup:=hn;rw [List.nodup_append]at hn;by_cases hl: ∃l',a= .label l'
  ·obtain⟨k,rfl⟩:=hl
   have h1:(bif Nat.beq k l then some b' else BI b' l)=some b:=h1;have hi:BI b' i=some r:=by
    cases he:Nat.beq k l with
    |true=>rw [he]at h1;cases h1;exact h2
    |false=>rw [he]at h1;exact ihb hn.2.1 h1 h2
   have hne:k≠i:=hn.2.2 k (by simp [Bi]) i (VA hi)
   show(bif Nat.beq k i then some b' else BI b' i)=_;rw [Bt hne];exact hi
  ·have e2:=CN (b:=b') hl
   rw [e2]at h1⊢;exact ihb hn.2.1 h1 h2
 |_=>intro b r l i _ h;cases h
theorem Vu{P:Program}{E:AW}{C:Ctx}(hE:EOK P E.toEnv)(hm:P.follows .mixedOrders=true)(hkeep:C.m<=E.h.keep):JX P E C (Vv E):=by
 intro c R s K z Q a w hs h hQ;unfold Vv at h;cases hch:JM c&&NA (Bi c)with
 |false=>rw [hch]at h;cases h
 |true=>
 rw [hch]at h;rw [bAE]at hch;obtain⟨hch,hnd⟩:=hch;have hnd:=Nz hnd;have h:DT E c s (Y3 K) _=some z:=h
 let D:Nat->Nat->Act->World->Prop:=fun n l a w=>∃ (l0:Nat) (c1:Code) (L Rh:List Nat) (s1:St) (tys:List Ty) (x:(Bc tys).T),KP c=some l0/\BI c l0=some c1/\HA (AG c1) L Rh s1=true/\Kp (Aq (AG c)) s s1/\C.m<=s1.r.length/\
  Cf (fun y:Nat×(Bc tys).T=>Ip E c (AG c1) L Rh s1 tys K y.1 y.2 (Bi c)) (l,x) (.ret z) n/\AV C E.h.n (A6 true (AG c1) L Rh s1 (ofX tys x)).den a w
 have claim: ∀n l a w,D n l a w->∃b,BI c l=some b/\b.wp P (fun e a' w'=>match e with
   | .goto l'=>∃n',n'<n/\D n' l' a' w'
   |e=>Q e a' w') a w:=by
  intro n
  induction n using Nat.strongRecOn with
  |_ n ih=>
  intro l a w hD;obtain⟨l0,c1,L,Rh,s1,tys,x,hf0,hr0,hok,hk1,hml,hT,hsr⟩:=hD
  have hround: ∃lo,Ip E c (AG c1) L Rh s1 tys K l x (Bi c)=some lo/\((∃y n',lo= .next y/\Cf (fun y:Nat×(Bc tys).T=>Ip E c (AG c1) L Rh s1 tys K y.1 y.2 (Bi c)) y (.ret z) n'/\n=n'+1)\/(lo= .ret z)):=by
   cases hT with
   |ret h'=>exact⟨_,h',.inr rfl⟩
   |step h' h2=>exact⟨_,h',.inl ⟨_,_,rfl,h2,rfl⟩⟩
  obtain⟨lo,hlo,hcase⟩:=hround;obtain⟨b,hb,hex⟩:=Jd _ hlo;refine⟨b,hb,?_⟩
  have hdst: ∀i,Aq (AG c1) i=true->Aq (AG b) i=true:=fun i hi=>by
   rcases Ov (c:=c) hf0 hr0 hb with⟨_,rfl⟩|h
   ·exact hi
   ·exact Je c1 b l h hi
  have hgo: ∀ (l':Nat) (s':St) (a':Act) (w':World),Kp (Aq (AG b)) (A6 true (AG c1) L Rh s1 (ofX tys x)) s'->AV C E.h.n s'.den a' w'->Ut L Rh s1 E.h.keep tys l' s'=some lo->∃n',n'<n/\D n' l' a' w':=by
   intro l' s' a' w' hk hs' hx;unfold Ut at hx;split at hx
   case h_2=>cases hx
   rename_i cs2 hcs2;split at hx
   case h_2=>cases hx
   rename_i x2 hx2;cases hx;rcases hcase with⟨y,n',he,hT',hn'⟩|he
   ·cases he
    obtain⟨f1,f2,f3⟩:=KK (hk.weak hdst);refine⟨n',by omega,l0,c1,L,Rh,s1,tys,x2,hf0,hr0,hok,hk1,hml,hT',?_⟩
    rw [Qx _ _ _ hx2];exact JC hs' hcs2 hkeep hml f1 f2 f3
   ·cases he
  have hk0: ∀s',Kp (Aq (AG b)) (A6 true (AG c1) L Rh s1 (ofX tys x)) s'->Kp (Aq (AG c)) s s':=fun s' hk=>
   Kp.trans hk1 (Kp.trans (OV hok) hk (g:=Aq (AG c)) (fun i hi=>Je c c1 l0 hr0 hi) fun i hi=>Je c b l hb hi) (fun _ h=>h) fun _ h=>h
  refine MG hE hm hkeep b _ _ _ lo _ a w hsr hex (fun e s' a' w' hk hs' hz=>?_) fun l' b' s' a' w' hk hs' hz _ h2=>?_
  ·have hret: ∀e',By (K e' s')=some lo->Q e' a' w':=fun e' hz=>by
    obtain⟨z',h1,rfl⟩:=Vz hz;rcases hcase with⟨_,_,he,_⟩|he
    ·cases he
    ·cases he
     exact hQ _ _ _ _ (hk0 s' hk) hs' h1
   cases e with
   |goto l'=>exact hgo l' s' a' w' hk hs' hz
   |normal=>exact hret _ hz
   |exit id=>exact hret _ hz
   |ret=>exact hret _ hz
   |panic ch=>cases hz
   |outgrown=>cases hz
  ·obtain⟨n',hn',hD'⟩:=hgo l' s' a' w' hk hs' hz
   obtain⟨b2,hb2,hw2⟩:=ih n' hn' l' a' w' hD';rw [QV hnd hb h2]at hb2;cases hb2;refine _root_.Go.wp_mono hw2 fun e a w hq=>?_
   cases e with
   |goto l2=>obtain⟨n2,h1,h2⟩:=hq;exact⟨n2,by omega,h2⟩
   |normal=>exact hq
   |exit id=>exact hq
   |ret=>exact hq
   |panic ch=>exact hq
   |outgrown=>exact hq
 have hlab: ∀n l a w,D n l a w->∃r,findLabel c l=some r:=fun n l a w hD=>by
  obtain⟨b,hb,_⟩:=claim n l a w hD;obtain⟨r,hr,_⟩:=IF (P:=P) c b l hch hb;exact⟨r,hr⟩
 have hmin: ∀ (l:Nat) (a:Act) (w:World),∃k,(∃n,D n l a w)->D k l a w/\∀n,D n l a w->k<=n:=by
  intro l a w;by_cases hJ: ∃n,D n l a w
  ·obtain⟨k,hk,hlt⟩:=Ul hJ
   exact⟨k,fun _=>⟨hk,fun n hn=>Nat.le_of_not_lt fun hl=>hlt n hl hn⟩⟩
  ·exact⟨0,fun h=>absurd h hJ⟩
 refine Le (fun l a w=>∃n,D n l a w) (fun l a w=>Classical.choose (hmin l a w)) ?_ ?_
 ·refine MG hE hm hkeep c s _ _ z _ a w hs h (fun e s' a' w' hk hs' hz=>?_) fun l b s1 a' w' hk hs' hz h1 h2=>?_
  ·cases e with
   |goto l=>cases hz
   |normal=>exact hQ _ _ _ _ hk hs' hz
   |exit id=>exact hQ _ _ _ _ hk hs' hz
   |ret=>exact hQ _ _ _ _ hk hs' hz
   |panic ch=>exact hQ _ _ _ _ hk hs' hz
   |outgrown=>exact hQ _ _ _ _ hk hs' hz
  ·rw [h2]at hz
   generalize Uc s1 E.lp (Bp c)=p at hz;obtain⟨L,Rh⟩:=p;simp only at hz;cases hok:HA (AG b) L Rh s1 with
   |false=>rw [hok]at hz;cases hz
   |true=>
   rw [hok]at hz;simp only [cond_true]at hz;split at hz
   case h_2=>cases hz
   rename_i cs hcs;split at hz
   case h_2=>cases hz
   rename_i x hx;have hml:C.m<=s1.r.length:=by
    obtain⟨hd0,hdd0,D0,ρ0,F0,hcr0⟩:=id hs';have:=hcr0.ml;simpa [St.den]using this
   cases hl:Au (fun y:Nat×(Bc (cs.map (·.t))).T=>Ip E c (AG b) L Rh s1 (cs.map (·.t)) K y.1 y.2 (Bi c)) (l,x)with
   |none=>rw [hl]at hz;cases hz
   |some o=>
   rw [hl]at hz;cases o with
   |next=>cases hz
   |brk=>cases hz
   |ret r=>
   cases hz;obtain⟨n,hn⟩:=Cg.1 hl;have hD:D n l a' w':=by
    refine⟨l,b,L,Rh,s1,_,x,h1,h2,hok,hk,hml,hn,?_⟩;rw [Qx _ _ _ hx];exact JC hs' hcs hkeep hml (fun _ _ _ _=>rfl) (fun _ _ _=>⟨rfl,rfl⟩) fun _ _ _ _=>rfl
   obtain⟨b2,hb2,hw2⟩:=claim n l a' w' hD;rw [h2]at hb2;cases hb2;refine _root_.Go.wp_mono hw2 fun e a w hq=>?_
   cases e with
   |goto l2=>obtain⟨n2,h1,h2⟩:=hq;exact⟨hlab _ _ _ _ h2,n2,h2⟩
   |normal=>exact hq
   |exit id=>exact hq
   |ret=>exact hq
   |panic ch=>exact hq
   |outgrown=>exact hq
 ·intro l r a w hf hJ
  obtain⟨hD,_⟩:=Classical.choose_spec (hmin l a w) hJ;obtain⟨b,hb,hw⟩:=claim _ l a w hD;obtain⟨r',hr',hrw⟩:=IF c b l hch hb;rw [hf]at hr';cases hr';refine hrw _ _ _ (_root_.Go.wp_mono hw fun e a' w' hq=>?_)
  cases e with
  |goto l2=>
   obtain⟨n2,h1,h2⟩:=hq;refine⟨hlab _ _ _ _ h2,⟨n2,h2⟩,?_⟩;have:=(Classical.choose_spec (hmin l2 a' w') ⟨n2,h2⟩).2 n2 h2;show Classical.choose (hmin l2 a' w')<Classical.choose (hmin l a w);omega
  |normal=>exact hq
  |exit id=>exact hq
  |ret=>exact hq
  |panic ch=>exact hq
  |outgrown=>exact hq
theorem Li{P:Program}{E:AW}{C:Ctx}(hE:EOK P E.toEnv)(hm:P.follows .mixedOrders=true)(hkeep:C.m<=E.h.keep)(c:Code){R:Type}(s:St)(K:Exit->St->Option R)(z:R)(Q:Exit->Act->World->Prop)(a:Act)(w:World)(hs:AV C E.h.n s.den a w)(h:Xy E c s K=some z)
  (hQ: ∀e s' a' w',Kp (Aq (AG c)) s s'->AV C E.h.n s'.den a' w'->K e s'=some z->Q e a' w'):c.wp P Q a w:=
 MH hE hm hkeep (Vu hE hm hkeep) c s K z Q a w hs h hQ
end Go.Ve


namespace Go.Ve
def divP:AU->AU->Bool
 |(_,k)::p,(_,l)::q=>!Nat.beq k l||divP p q
 |_,_=>false
theorem Qf{x:V}: ∀ {p q:AU} (_:divP p q=true) (v:V),sub q (upd p v x)=sub q v/\AY p q=false
 |(i,k)::p,(j,l)::q,h0,v=>by
  have h:(!Nat.beq k l||divP p q)=true:=h0;clear h0;by_cases hkl:k=l
  ·subst hkl
   rw [Nat.beq_refl,Bool.not_true,Bool.false_or]at h;refine⟨?_,?_⟩
   ·cases v with
    |nd s o sz n f=>
     show sub q (if j=i/\k=k then upd p (f i k) x else f j k)=sub q (f j k)
     by_cases hji:j=i
     ·subst hji
      rw [if_pos ⟨rfl,rfl⟩];exact(Qf h (f j k)).1
     ·rw [if_neg (fun e=>hji e.1)]
    |_=>rfl
   ·show(i==j&&k==k&&AY p q)=false
    rw [(Qf (x:=x) h v).2,Bool.and_false]
  ·refine⟨?_,?_⟩
   ·cases v with
    |nd s o sz n f=>
     show sub q (if j=i/\l=k then upd p (f i k) x else f j l)=sub q (f j l)
     rw [if_neg (fun e=>hkl e.2.symm)]
    |_=>rfl
   ·show(i==j&&k==l&&AY p q)=false
    have:(k==l)=false:=by simpa using hkl
    rw [this,Bool.and_false,Bool.false_and]
 | [],_,h,_=>by cases h
 |_::_,[],h,_=>by cases h
def CO:List Cl->List (Nat×AU)
 | []=>[]
 | .rf id p::l=>(id,p)::CO l
 |_::l=>CO l
def Qe(a b:Nat×AU):Bool:=!Nat.beq a.1 b.1||divP a.2 b.2
def NY:List (Nat×AU)->Bool
 | []=>true
 |a::l=>l.all (Qe a)&&NY l
def ZE(r:List Ac):Cl->Option Cl
 | .c t d x=>some (.c t d x)
 | .nil=>some .nil
 | .nilp=>some .nilp
 | .rf id p=>match Ae r id p with
  | .arr _ t d xs=>some (.c (.sl t) (d+1) xs)
  |_=>none
 |_=>none
def MK(r:List Ac):List Cl->Option (List Cl)
 | []=>some []
 |y::l=>match ZE r y with
  |some z=>match MK r l with
   |some m=>some (z::m)
   |none=>none
  |none=>none
theorem PX{id:Nat}{q:AU}: ∀ {l:List Cl},Cl.rf id q∈l->(id,q)∈CO l
 | [],h=>by cases h
 |z::l,h=>by
  rcases List.mem_cons.1 h with h|h
  ·subst h;exact List.mem_cons_self ..
  ·have:=PX h
   cases z<;>first|exact this|exact mCM _ this
theorem IW{r:List Ac}{y:Cl}: ∀ {l l1:List Cl},MK r l=some l1->y∈l->∃z,ZE r y=some z
 | [],_,_,h=>by cases h
 |z::l,l1,hl,h=>by
  unfold MK at hl;split at hl
  case h_2=>cases hl
  rename_i z1 hz1;split at hl
  case h_2=>cases hl
  rename_i l2 hl2;rcases List.mem_cons.1 h with h|h
  ·subst h;exact⟨z1,hz1⟩
  ·exact IW hl2 h
theorem ZB{m id:Nat}{p:AU}{n:Nat}{vs σ:List V}:tkL (m+1) (V.rs id p 0 n::vs) σ=(match sub p (σ.getD id .dead)with
   | .nd true true sz n' f=>if 0=0/\n=n' then .nd true true sz n' f::tkL m (vs.map fun v=>Bb σ.length [] (rrV id p σ.length v)) (σ.set id (upd p (σ.getD id .dead) .dead)++ [.dead])else .dead::tkL m vs σ
   |_=>.dead::tkL m vs σ):=rfl
theorem tkL_v(r:List Ac): ∀ (l l':List Cl) (m:Nat) (σ:List V),l.length<=m->l.all Cl.plain=true->MK r l=some l'->NY (CO l)=true->
  (∀id p,(id,p)∈CO l->sub p (σ.getD id .dead)=(Ae r id p).v/\id<σ.length)->tkL m (l.map (Cl.v r)) σ=l'.map Cl.v0:=by
 intro l
 induction l with
 |nil=>intro l' m σ _ _ h _ _;cases h;cases m<;>rfl
 |cons y l ih=>
  intro l' m σ hm hp h hd hσ;cases m with
  |zero=>simp at hm
  |succ m=>
   simp only [List.length_cons]at hm;rw [List.all_cons,bAE]at hp;unfold MK at h;split at h
   case h_2=>cases h
   rename_i z hz;split at h
   case h_2=>cases h
   rename_i l1 hl1;cases h
   have plainly: ∀v:V,y.v r=v->v=z.v0->CO (y::l)=CO l->(∀vs,tkL (m+1) (v::vs) σ=v::tkL m vs σ)->tkL (m+1) ((y::l).map (Cl.v r)) σ=(z::l1).map Cl.v0:=by
    intro v hv hvz hrf htk;rw [List.map_cons,List.map_cons,hv,htk,<-hvz]
    congr 1
    exact ih l1 m σ (by omega) hp.2 hl1 (by rw [hrf]at hd;exact hd) fun id p hm=>hσ id p (by rw [hrf];exact hm)
   cases y with
   |c t d x=>
    cases hz;cases t<;>first|exact plainly _ rfl rfl rfl (fun _=>rfl)|cases hp.1
   |nil=>cases hz;exact plainly _ rfl rfl rfl fun _=>rfl
   |nilp=>cases hz;exact plainly _ rfl rfl rfl fun _=>rfl
   |nilf=>cases hz
   |rf id p=>
    unfold ZE at hz;simp only at hz;split at hz
    case h_2=>cases hz
    rename_i ro t d xs hn;cases hz;have hd':((CO l).all (Qe (id,p))&&NY (CO l))=true:=hd;rw [bAE]at hd';obtain⟨hs,hid⟩:=hσ id p (List.mem_cons_self ..);rw [hn]at hs;have hs:sub p (σ.getD id .dead)= .nd true true t.w xs.length fun i k=>(tyV t d (xs.getD i t.dflt)).getD k .dead:=hs
    rw [List.map_cons];show tkL (m+1) (V.rs id p 0 (Ae r id p).len::l.map (Cl.v r)) σ=_;rw [hn];show tkL (m+1) (V.rs id p 0 xs.length::l.map (Cl.v r)) σ=_
    have e:tkL (m+1) (V.rs id p 0 xs.length::l.map (Cl.v r)) σ=(V.nd true true t.w xs.length fun i k=>(tyV t d (xs.getD i t.dflt)).getD k .dead)::
      tkL m ((l.map (Cl.v r)).map fun v=>Bb σ.length [] (rrV id p σ.length v)) (σ.set id (upd p (σ.getD id .dead) .dead)++ [.dead]):=by
     rw [ZB,hs];exact if_pos ⟨rfl,rfl⟩
    rw [e,List.map_cons]
    congr 1
    -- the rest is as it was
    have hsame:(l.map (Cl.v r)).map (fun v=>Bb σ.length [] (rrV id p σ.length v))=l.map (Cl.v r):=by
     rw [List.map_map];refine List.map_congr_left fun y hy=>?_
     show Bb σ.length [] (rrV id p σ.length (y.v r))=y.v r;cases y with
     |c t d x=>cases t<;>first|rfl|exact(congrArg (Bb σ.length []) ((C6 id p σ.length).osl (d:=d))).trans ((BL σ.length []).osl (d:=d))|exact(congrArg (Bb σ.length []) ((C6 id p σ.length).clo (d:=d))).trans ((BL σ.length []).clo (d:=d))
     |dead=>rfl
     |nil=>rfl
     |nilp=>rfl
     |nilf=>rfl
     |rf id' q=>
      have hmem:(id',q)∈CO l:=PX hy;have hdv:=aET.1 hd'.1 _ hmem;have hlt:=(hσ id' q (mCM _ hmem)).2
      have hn1: ¬ (id'=id/\AY p q=true):=by
       rintro ⟨h1,h2⟩
       unfold Qe at hdv;simp only [h1,Nat.beq_refl,Bool.not_true,Bool.false_or]at hdv;rw [(Qf (x:=.dead) hdv .dead).2]at h2;cases h2
      show Bb σ.length [] (rrV id p σ.length (.rs id' q 0 (Ae r id' q).len))=_;simp only [rrV,if_neg hn1,Bb];rw [if_neg (by rintro ⟨h,_⟩;omega)]
      rfl
     |rs id' q a b=>obtain⟨z,hz⟩:=IW hl1 hy;cases hz
     |rp id' q a b=>obtain⟨z,hz⟩:=IW hl1 hy;cases hz
    rw [hsame];refine ih l1 m _ (by omega) hp.2 hl1 hd'.2 fun id' q hmem=>?_
    obtain⟨h1,h2⟩:=hσ id' q (mCM _ hmem);have hdv:=aET.1 hd'.1 _ hmem;refine⟨?_,by simp;omega⟩
    have hlt:id'<(σ.set id (upd p (σ.getD id .dead) .dead)).length:=by simpa using h2
    rw [AI hlt];by_cases hii:id=id'
    ·subst hii
     rw [Ao hid,<-h1];unfold Qe at hdv;simp only [Nat.beq_refl,Bool.not_true,Bool.false_or]at hdv;exact(Qf hdv _).1
    ·rw [Am hii,h1]
   |dead=>cases hz
   |rs=>cases hz
   |rp=>cases hz
def retV1(Θ:Tab)(s:St):ResultVar->Option Sl
 | .tmp t=>some (s.t t)
 | .cell a t=>match Vc s (Θ.look t) (s.ev (.tmp a))with
  |some (.ok y)=>some y
  |_=>none
def XR(Θ:Tab)(s:St):List ResultVar->Option (List Sl)
 | []=>some []
 |v::l=>match retV1 Θ s v with
  |some y=>match XR Θ s l with
   |some m=>some (y::m)
   |none=>none
  |none=>none
def cellsOf:List Sl->Option (List (Bool×List Cl))
 | []=>some []
 |y::l=>match y with
  | .one c=>match(Sl.one c).cells,cellsOf l with
   |some m,some n=>some ((false,m)::n)
   |_,_=>none
  | .agg c=>match(Sl.agg c).cells,cellsOf l with
   |some m,some n=>some ((true,m)::n)
   |_,_=>none
  |_=>none
def OG(t:Ty)(d:Nat)(l:List Cl):Option t.T:=H6 t d (l.map (fit d))
theorem Jl{t:Ty}{d:Nat}{l:List Cl}{x:t.T}(h:OG t d l=some x)(r:List Ac):CJ (l.map (Cl.v r)) (tyV t d x)/\l.map (Cl.v r)=l.map Cl.v0:=by
 have:=CQ h r
 have e1:(l.map (fit d)).map (Cl.v r)=l.map (Cl.v r):=by
  rw [List.map_map];exact List.map_congr_left fun c _=>(Aaz d r c).1
 have e2:(l.map (fit d)).map Cl.v0=l.map Cl.v0:=by
  rw [List.map_map];exact List.map_congr_left fun c _=>(Aaz d r c).2
 rw [e1,e2]at this;exact this
def KD(b:Bool)(p:Bool×Nat×Ty)(l:List Cl):Option p.2.2.T:=bif b|| !isP p then OG p.2.2 p.2.1 l else match l with
 | [.nilp]=>some p.2.2.dflt
 |_=>none
def PN(b:Bool):(rs:List (Bool×Nat×Ty))->List (Bool×List Cl)->List Cl->Option (RT rs).T
 | [],[],[]=>some ()
 | [p],[q],l=>bif p.1==q.1&&(p.1||p.2.2.one)&&Nat.beq l.length q.2.length then KD b p l else none
 |p::p'::rs,q::q'::qs,l=>bif p.1==q.1&&(p.1||p.2.2.one)&&Nat.ble q.2.length l.length then(match KD b p (l.take q.2.length)with
  |some x=>match PN b (p'::rs) (q'::qs) (l.drop q.2.length)with
   |some z=>some (x,z)
   |none=>none
  |none=>none)else none
 |_,_,_=>none
def AaM(b:Bool)(Θ:Tab)(rv:List ResultVar)(rs:List (Bool×Nat×Ty))(s:St):Option (RT rs).T:=match XR Θ s rv with
 |some ys=>match cellsOf ys with
  |some ls=>match MK s.r (ls.flatMap (·.2))with
   |some m=>bif NY (CO (ls.flatMap (·.2)))then PN b rs ls m else none
   |none=>none
  |none=>none
 |none=>none
def retK(Θ:Tab)(rv:List ResultVar)(rs:List (Bool×Nat×Ty)):Exit->St->Option (RT rs).T
 | .normal,s=>AaM true Θ rv rs s
 | .ret,s=>AaM true Θ rv rs s
 |_,_=>none
def pS(b:Bool)(t:Ty)(x:t.T):Sl:=bif b then .agg (As t 0 x)else .one (.c t 0 x)
def Xm:(l:List (Bool×Ty))->(PT l).T->List Sl
 | [],_=>[]
 | [p],x=>[pS p.1 p.2 x]
 |p::q::l,x=>pS p.1 p.2 x.1::Xm (q::l) x.2
def On(l:List (Bool×Ty))(x:(PT l).T):St:=⟨fun i=>(Xm l x).getD i (.one .dead),[]⟩
noncomputable def tfun(E:AW)(body:Code)(rv:List ResultVar)(S:Sig)(x:(PT S.ps).T):Option (RT S.rs).T:=Xy E body (On S.ps x) (retK E.Θ rv S.rs)
theorem N2{s:St}: ∀ (ys:List Sl) (ls:List (Bool×List Cl)),cellsOf ys=some ls->(ys.map (Sl.v s.r)).all Br=true/\(ys.map (Sl.v s.r)).flatMap Go.Ve.cellsV=(ls.flatMap (·.2)).map (Cl.v s.r)/\(ls.flatMap (·.2)).all Cl.plain=true/\ls.length=ys.length
 | [],ls,h=>by cases h;exact⟨rfl,rfl,rfl,rfl⟩
 |y::ys,ls,h=>by
  have go: ∀ (b:Bool) (m:List Cl) (n:List (Bool×List Cl)),y.cells=some m->cellsOf ys=some n->ls=(b,m)::n->((y::ys).map (Sl.v s.r)).all Br=true/\((y::ys).map (Sl.v s.r)).flatMap Go.Ve.cellsV=(ls.flatMap (·.2)).map (Cl.v s.r)/\(ls.flatMap (·.2)).all Cl.plain=true/\ls.length=(y::ys).length:=by
   intro b m n hm hn e;subst e;obtain⟨h1,h2,h3⟩:=Cz (r:=s.r) hm;obtain⟨g1,g2,g3,g4⟩:=N2 ys n hn;refine⟨by rw [List.map_cons,List.all_cons,h1,g1];rfl,?_,?_,by simp [g4]⟩
   ·rw [List.map_cons,List.flatMap_cons,List.flatMap_cons,List.map_append,h2,g2]
   ·rw [List.flatMap_cons,List.all_append,h3,g3];rfl
  unfold cellsOf at h;split at h
  ·split at h
   ·rename_i m n hm hn
    cases h;exact go _ _ _ hm hn rfl
   ·cases h
  ·split at h
   ·rename_i m n hm hn
    cases h;exact go _ _ _ hm hn rfl
   ·cases h
  ·cases h
theorem DF{s:St}: ∀ (ys:List Sl) (ls:List (Bool×List Cl)),cellsOf ys=some ls->∀k,k<ls.length->((ls.getD k (false,[])).1=true/\(∃l,(ys.getD k (.one .dead)).v s.r=Af l/\l.length=(ls.getD k (false,[])).2.length))\/((ls.getD k (false,[])).1=false/\(∀t n f,(ys.getD k (.one .dead)).v s.r≠.many t n f)/\(ls.getD k (false,[])).2.length=1)
 | [],ls,h,k,hk=>by cases h;simp at hk
 |y::ys,ls,h,k,hk=>by
  unfold cellsOf at h;split at h
  ·rename_i c
   split at h
   ·rename_i m n hm hn
    cases h;cases k with
    |zero=>
     right;refine⟨rfl,?_,?_⟩
     ·have hm:(bif c.plain then some [c]else none)=some m:=hm
      cases hb:c.plain with
      |false=>rw [hb]at hm;cases hm
      |true=>
       show ∀t n f,c.v s.r≠.many t n f;cases c with
       |c t d x=>cases t<;>first|(cases hb;done)|(intro _ _ _ h;cases h)
       |_=>intro _ _ _ h;cases h
     ·have hm:(bif c.plain then some [c]else none)=some m:=hm
      cases hb:c.plain with
      |false=>rw [hb]at hm;cases hm
      |true=>rw [hb]at hm;cases hm;rfl
    |succ k=>exact DF ys n hn k (by simpa using hk)
   ·cases h
  ·rename_i c
   split at h
   ·rename_i m n hm hn
    cases h;cases k with
    |zero=>
     left;refine⟨rfl,c.map (Cl.v s.r),rfl,?_⟩;have hm:(bif c.all Cl.plain then some c else none)=some m:=hm;cases hb:c.all Cl.plain with
     |false=>rw [hb]at hm;cases hm
     |true=>rw [hb]at hm;cases hm;simp
    |succ k=>exact DF ys n hn k (by simpa using hk)
   ·cases h
  ·cases h
theorem X1(b:Bool): ∀ (rs:List (Bool×Nat×Ty)) (ls:List (Bool×List Cl)) (l:List Cl) (z:(RT rs).T) (vl:List V),PN b rs ls l=some z->vl.length=ls.length->
  (∀k,k<ls.length->((ls.getD k (false,[])).1=true/\(∃m,vl.getD k .dead=Af m/\m.length=(ls.getD k (false,[])).2.length))\/((ls.getD k (false,[])).1=false/\(∀t n f,vl.getD k .dead≠.many t n f)/\(ls.getD k (false,[])).2.length=1))->
  CJ (A8 vl (l.map Cl.v0)) (QW b rs z):=by
 -- one result
 have one: ∀ (p:Bool×Nat×Ty) (q:Bool×List Cl) (l:List Cl) (x:p.2.2.T) (v:V) (vs:List V) (rest:List V),p.1=q.1->(p.1=true\/p.2.2.one=true)->l.length=q.2.length->KD b p l=some x->
   ((q.1=true/\(∃m,v=Af m/\m.length=q.2.length))\/(q.1=false/\(∀t n f,v≠.many t n f)/\q.2.length=1))->∃v',A8 (v::vs) (l.map Cl.v0++rest)=v'::A8 vs rest/\Sub v' (Xf b p x):=by
  intro p q l x v vs rest h1 h2 hl hx hk;unfold KD at hx;unfold Xf;cases hbp:b|| !isP p with
  |false=>
   rw [hbp]at hx;simp only [cond_false]at hx;split at hx
   case h_2=>cases hx
   have hp1:p.1=false:=by
    rw [Bool.or_eq_false_iff,Bool.not_eq_false']at hbp;have:=hbp.2;unfold isP at this;rw [bAE,Bool.not_eq_true']at this;exact this.1
   rcases hk with⟨hq,_⟩|⟨_,hv,_⟩
   ·rw [<-h1,hp1]at hq;cases hq
   ·refine⟨.c (.pointer none),?_,Sub.refl _⟩
    show A8 (v::vs) (.c (.pointer none)::rest)=_;cases v with
    |many t n f=>exact absurd rfl (hv _ _ _)
    |_=>rfl
  |true=>
  rw [hbp]at hx;simp only [cond_true]at hx⊢;obtain⟨g1,g2⟩:=Jl hx [];rw [g2]at g1;rcases hk with⟨hq,m,rfl,hm⟩|⟨hq,hv,hq1⟩
  ·refine⟨Af (l.map Cl.v0),?_,?_⟩
   ·show Af ((l.map Cl.v0++rest).take m.length)::A8 vs ((l.map Cl.v0++rest).drop m.length)=_
    have e:(l.map Cl.v0).length=m.length:=by rw [List.length_map,hl,hm]
    rw [<-e,List.take_left,List.drop_left]
   ·rw [h1,hq];exact g1.mk
  ·have hp:p.1=false:=by rw [h1,hq]
   have ho:p.2.2.one=true:=by rcases h2 with h|h;rw [hp]at h;cases h;exact h
   rw [A2 ho]at g1
   match l,hl with
   | [y],_=>
    refine⟨y.v0,?_,?_⟩
    ·show A8 (v::vs) (y.v0::rest)=_
     cases v with
     |many t n f=>exact absurd rfl (hv _ _ _)
     |_=>rfl
    ·rw [hp];exact g1.1
   | [],hl=>rw [hq1]at hl;cases hl
   |_::_::_,hl=>rw [hq1]at hl;simp at hl
 intro rs
 induction rs with
 |nil=>
  intro ls l z vl h hl hk;cases ls with
  |nil=>cases l with
   |nil=>cases vl with
    |nil=>trivial
    |cons=>simp at hl
   |cons=>cases h
  |cons=>cases h
 |cons p rs ih=>
  intro ls l z vl h hl hk;cases rs with
  |nil=>
   cases ls with
   |nil=>cases h
   |cons q ls=>cases ls with
    |cons=>cases h
    |nil=>
     have h:(bif p.1==q.1&&(p.1||p.2.2.one)&&Nat.beq l.length q.2.length then KD b p l else none)=some z:=h;cases hb:(p.1==q.1&&(p.1||p.2.2.one)&&Nat.beq l.length q.2.length)with
     |false=>rw [hb]at h;cases h
     |true=>
      rw [hb]at h;simp only [bAE,beq_iff_eq,Bool.or_eq_true]at hb;cases vl with
      |nil=>simp at hl
      |cons v vl=>cases vl with
       |cons=>simp at hl
       |nil=>
        obtain⟨v',e,hs⟩:=one p q l z v [] [] hb.1.1 hb.1.2 (bqE hb.2) h (hk 0 (by simp))
        rw [List.append_nil]at e;rw [e];exact⟨hs,trivial⟩
  |cons p' rs=>
   cases ls with
   |nil=>cases h
   |cons q ls=>cases ls with
    |nil=>cases h
    |cons q' ls=>
     have h:(bif p.1==q.1&&(p.1||p.2.2.one)&&Nat.ble q.2.length l.length then(match KD b p (l.take q.2.length)with
      |some x=>match PN b (p'::rs) (q'::ls) (l.drop q.2.length)with
       |some z=>some (x,z)
       |none=>none
      |none=>none)else none:Option (RT (p::p'::rs)).T)=some z:=h
     cases hb:(p.1==q.1&&(p.1||p.2.2.one)&&Nat.ble q.2.length l.length)with
     |false=>rw [hb]at h;cases h
     |true=>
      rw [hb]at h;simp only [bAE,beq_iff_eq,Bool.or_eq_true]at hb;simp only [cond_true]at h;split at h
      case h_2=>cases h
      rename_i x hx;split at h
      case h_2=>cases h
      rename_i z2 hz2;cases h;cases vl with
      |nil=>simp at hl
      |cons v vl=>
       have hlen:(l.take q.2.length).length=q.2.length:=by
        have:=blE hb.2;rw [List.length_take];omega
       obtain⟨v',e,hs⟩:=one p q (l.take q.2.length) x v vl ((l.drop q.2.length).map Cl.v0) hb.1.1 hb.1.2 hlen hx (hk 0 (by simp))
       rw [<-List.map_append,List.take_append_drop]at e;rw [e];refine⟨hs,ih (q'::ls) (l.drop q.2.length) z2 vl hz2 (by simpa using hl) fun k hk'=>?_⟩
       have:=hk (k+1) (by simpa using hk')
       simpa using this
theorem Vy{P:Program}{Θ:Tab}(hΘ:Θ.OK P){s:St}{K:List V->Prop}: ∀ (rv:List ResultVar) (ys:List Sl) (acc:List V),XR Θ s rv=some ys->K (acc++ys.map (Sl.v s.r))->QX P s.den rv acc K
 | [],ys,acc,h,hK=>by cases h;show K acc;simpa using hK
 |v::rv,ys,acc,h,hK=>by
  unfold XR at h;split at h
  case h_2=>cases h
  rename_i y hy;split at h
  case h_2=>cases h
  rename_i m hm;cases h;have hrest:QX P s.den rv (acc++ [y.v s.r]) K:=Vy hΘ rv m _ hm (by simpa using hK)
  cases v with
  |tmp t=>
   cases hy;exact hrest
  |cell a t=>
   unfold retV1 at hy;simp only at hy;split at hy
   ·rename_i y' hl
    cases hy;show Hr (tyI P t) s.den.σ (s.den.t a) fun v=>QX P s.den rv (acc++ [v]) K
    exact Kv (Pt hΘ hl trivial) fun r0 hr=>by rw [hr];exact hrest
   ·cases hy
theorem Pz{P:Program}{Θ:Tab}(hΘ:Θ.OK P){s:St}{rv:List ResultVar}{rs:List (Bool×Nat×Ty)}{b:Bool}{z:(RT rs).T}(h:AaM b Θ rv rs s=some z):QX P s.den rv [] (W8 s.den.σ (Jf b rs z)):=by
 unfold AaM at h;split at h
 case h_2=>cases h
 rename_i ys hys;split at h
 case h_2=>cases h
 rename_i ls hls;split at h
 case h_2=>cases h
 rename_i m hm;cases hd:NY (CO (ls.flatMap (·.2)))with
 |false=>rw [hd]at h;cases h
 |true=>
  rw [hd]at h;simp only [cond_true]at h;refine Vy hΘ rv ys [] hys ?_;rw [List.nil_append];obtain⟨h1,h2,h3,h4⟩:=N2 (s:=s) ys ls hls;refine⟨h1,?_⟩;rw [h2];have htk:=tkL_v s.r (ls.flatMap (·.2)) m ((ls.flatMap (·.2)).map (Cl.v s.r)).length s.den.σ (by simp) h3 hm hd fun id p hmem=>?_
  ·rw [htk]
   have hsub:=X1 b rs ls m z (ys.map (Sl.v s.r)) h (by rw [List.length_map,h4]) fun k hk=>?_
   ·-- KC
    have hp: ∀ {a b:List V},CJ a b->Sub (LM a) (LM b):=by
     intro a b hab
     match a,b,hab with
     | [],[],_=>exact Sub.refl _
     | [x],[y],hab=>exact hab.1
     |x::x'::a,y::y'::b,hab=>
      show Sub (C1 _) (C1 _);unfold C1;rw [hab.len];exact⟨_,rfl,fun k _=>hab.getD k⟩
     | [],_::_,hab=>exact hab.elim
     |_::_,[],hab=>exact hab.elim
     | [_],_::_::_,hab=>exact hab.2.elim
     |_::_::_,[_],hab=>exact hab.2.elim
    exact hp hsub
   ·have:=DF (s:=s) ys ls hls k hk
    have e:(ys.map (Sl.v s.r)).getD k .dead=(ys.getD k (.one .dead)).v s.r:=Ax (f:=Sl.v s.r) (a:=.one .dead) rfl ys k;rw [e];exact this
  ·have key: ∀ (l l':List Cl),MK s.r l=some l'->(id,p)∈CO l->Ae s.r id p≠.dead:=by
    intro l
    induction l with
    |nil=>intro l' _ h;cases h
    |cons y l ih=>
     intro l' hl hm;unfold MK at hl;split at hl
     case h_2=>cases hl
     rename_i z1 hz1;split at hl
     case h_2=>cases hl
     rename_i l2 hl2;cases y with
     |rf id' q=>
      rcases List.mem_cons.1 hm with h|h
      ·cases h
       intro hx
       have hz1:(match Ae s.r id p with
        | .arr _ t d xs=>some (Cl.c (.sl t) (d+1) xs)
        |_=>none)=some z1:=hz1
       rw [hx]at hz1;cases hz1
      ·exact ih l2 hl2 h
     |_=>exact ih l2 hl2 hm
   have hne:=key _ _ hm hmem;refine⟨AS hne,?_⟩;show id<(s.r.map Ac.v).length;rw [List.length_map];rcases Nat.lt_or_ge id s.r.length with h|h
   ·exact h
   ·exfalso
    apply hne;unfold Ae;rw [gDE,List.getElem?_eq_none h];exact Cx p
theorem pS_v(b:Bool)(t:Ty)(x:t.T):(pS b t x).v []=vOf b t 0 x:=by
 unfold pS vOf;cases b with
 |true=>show Af ((As t 0 x).map (Cl.v []))=_;rw [Cl.v_c];rfl
 |false=>rfl
theorem WX: ∀ (l:List (Bool×Ty)) (x:(PT l).T),(Xm l x).map (Sl.v [])=Ci l x
 | [],x=>rfl
 | [p],x=>congrArg (fun v=>[v]) (pS_v p.1 p.2 x)
 |p::q::l,x=>by
  show(pS p.1 p.2 x.1).v []::(Xm (q::l) x.2).map (Sl.v [])=vOf p.1 p.2 0 x.1::Ci (q::l) x.2;rw [WX (q::l) x.2,pS_v]
theorem DI: ∀ (l:List (Bool×Ty)) (x:(PT l).T),(Ci l x).length=l.length
 | [],_=>rfl
 | [_],_=>rfl
 |_::q::l,x=>by show(Ci (q::l) x.2).length+1=_;rw [DI];rfl
theorem YI{P:Program}{E:AW}{f:FuncId}{fn:Func}{body:Code}{S:Sig}(hE:EOK P E.toEnv)(hm:P.follows .mixedOrders=true)(hf:P.funcs[f]? =some fn)(hb:fn.body=some body)(hn:max S.ps.length fn.ntmps=E.h.n):
  FT P f S (tfun E body fn.results.toList S):=by
 intro x y hxy;refine FC_of (h:=E.h) hf hb (by rw [DI];exact hn) fun _ C a w Q hCm hs hQ=>?_
 have e:(On S.ps x).den=⟨fun i=>(Ci S.ps x).getD i .dead,[]⟩:=by
  show Ms.mk (fun i=>((Xm S.ps x).getD i (.one .dead)).v []) []=_
  congr 1
  funext i
  rw [<-WX S.ps x,Ax (f:=Sl.v []) (a:=.one .dead) rfl]
 rw [<-e]at hs;rw [<-D5]at hQ;refine Li hE hm (by rw [hCm];exact Nat.zero_le _) body (On S.ps x) _ y Q a w hs hxy fun e s' a' w' _ hs' hz=>?_
 cases e with
 |normal=>exact hQ .normal s'.den a' w' (Pz hE.Θ hz) hs'
 |ret=>exact hQ .ret s'.den a' w' (Pz hE.Θ hz) hs'
 |exit id=>cases hz
 |goto l=>cases hz
 |panic ch=>cases hz
 |outgrown=>cases hz
end Go.Ve


namespace Go.Ve
noncomputable def tfn(E:AW)(fn:Func)(S:Sig)(x:(PT S.ps).T):Option (RT S.rs).T:=match fn.body with
 |some b=>tfun E b fn.results.toList S x
 |none=>none
theorem AE{P:Program}{E:AW}{f:FuncId}{fn:Func}{S:Sig}(hΘ:Tab.OK P E.Θ)(hΓ:Ka P E.Γ)(hW: ∀e∈E.W,e.OK P)(hN: ∀e∈E.N,e.OK P)(hm:P.follows .mixedOrders=true)(hf:P.funcs[f]? =some fn)(hn:max S.ps.length fn.ntmps=E.h.n){g:(PT S.ps).T->Option (RT S.rs).T}(hg:tfn E fn S=g)(hU: ∀e∈E.U,e.OK P:=by exact JF):FT P f S g:=by
 subst hg;intro x y hxy;unfold tfn at hxy;cases hb:fn.body with
 |none=>rw [hb]at hxy;cases hxy
 |some b=>
  rw [hb]at hxy;exact YI ⟨hΘ,hΓ,hW,hN,hU⟩ hm hf hb hn x y hxy
theorem Aj{P:Program}: ∀e∈([]:List EnN),e.OK P:=fun _ h=>by cases h
theorem Ai{P:Program}:Ka P []:=fun _ h=>by cases h
theorem Aa{P:Program}{e:En}{l:List En}(h1:Ab P e.f=true)(h2:FT P e.f e.S e.g)(hl:Ka P l):Ka P (e::l):=by
 intro x hx;rcases List.mem_cons.1 hx with rfl|hx
 ·exact⟨h1,h2⟩
 ·exact hl x hx
end Go.Ve

