/- The typed machine over code: what a body computes, as a function; that it does. -/
import Derived.Test.YtpaekmpjbalnfabTl
namespace Go.Ve
inductive LO(X R:Type) where
 |next (x:X)
 |brk (id:Nat) (x:X)
 |ret (r:R)
inductive Cy{X R:Type}(f:X->Option (LO X R)):X->LO X R->Nat->Prop where
 |brk {x y:X} {id:Nat}:f x=some (.brk id y)->Cy f x (.brk id y) 0
 |ret {x:X} {r:R}:f x=some (.ret r)->Cy f x (.ret r) 0
 |step {x y:X} {o:LO X R} {n:Nat}:f x=some (.next y)->Cy f y o n->Cy f x o (n+1)
noncomputable def Ah{X R:Type}(f:X->Option (LO X R))(x:X):Option (LO X R):=@dite _ (∃o n,Cy f x o n) (Classical.propDecidable _) (fun h=>some (Classical.choose h)) fun _=>none
theorem Cy.det{X R:Type}{f:X->Option (LO X R)}: ∀ {x:X} {o o':LO X R} {n n':Nat},Cy f x o n->Cy f x o' n'->o=o'/\n=n':=by
 intro x o o' n n' h
 induction h generalizing o' n' with
 |brk h=>intro h';cases h' with
  |brk h'=>rw [h]at h';cases h';exact⟨rfl,rfl⟩
  |ret h'=>rw [h]at h';cases h'
  |step h' _=>rw [h]at h';cases h'
 |ret h=>intro h';cases h' with
  |brk h'=>rw [h]at h';cases h'
  |ret h'=>rw [h]at h';cases h';exact⟨rfl,rfl⟩
  |step h' _=>rw [h]at h';cases h'
 |step h _ ih=>intro h';cases h' with
  |brk h'=>rw [h]at h';cases h'
  |ret h'=>rw [h]at h';cases h'
  |step h' h2=>rw [h]at h';cases h';obtain⟨rfl,rfl⟩:=ih h2;exact⟨rfl,rfl⟩
theorem Cz{X R:Type}{f:X->Option (LO X R)}{x:X}{o:LO X R}:Ah f x=some o↔ ∃n,Cy f x o n:=by
 unfold Ah;split
 ·rename_i h
  obtain⟨n,hn⟩:=Classical.choose_spec h;constructor
  ·intro e;cases e;exact⟨n,hn⟩
  ·rintro ⟨n',h'⟩;rw [(hn.det h').1]
 ·rename_i h
  constructor
  ·intro e;cases e
  ·rintro ⟨n,hn⟩;exact absurd ⟨o,n,hn⟩ h
theorem Bg{X R:Type}(f:X->Option (LO X R))(x:X):Ah f x=(f x).bind fun o=>match o with
  | .next y=>Ah f y
  | .brk id y=>some (.brk id y)
  | .ret r=>some (.ret r):=by
 cases hf:f x with
 |none=>
  show Ah f x=none;cases h:Ah f x with
  |none=>rfl
  |some o=>
   obtain⟨n,hn⟩:=Cz.1 h;cases hn with
   |brk h'=>rw [hf]at h';cases h'
   |ret h'=>rw [hf]at h';cases h'
   |step h' _=>rw [hf]at h';cases h'
 |some o=>
  cases o with
  |brk id y=>exact Cz.2 ⟨0,.brk hf⟩
  |ret r=>exact Cz.2 ⟨0,.ret hf⟩
  |next y=>
   show Ah f x=Ah f y;cases h:Ah f y with
   |some o=>obtain⟨n,hn⟩:=Cz.1 h;exact Cz.2 ⟨n+1,.step hf hn⟩
   |none=>
    cases h2:Ah f x with
    |none=>rfl
    |some o=>
     obtain⟨n,hn⟩:=Cz.1 h2;cases hn with
     |brk h'=>rw [hf]at h';cases h'
     |ret h'=>rw [hf]at h';cases h'
     |step h' h3=>rw [hf]at h';cases h';rw [Cz.2 ⟨_,h3⟩]at h;cases h
def Bl:List Ty->Ty
 | []=>.unit
 | [t]=>t
 |t::u::l=>.pair t (Bl (u::l))
def WV(t:Ty)(y:Dy):Option t.T:=if h:y.t=t then some (h▸y.x)else none
def toX:(tys:List Ty)->List Dy->Option (Bl tys).T
 | [],[]=>some ()
 | [t],[y]=>WV t y
 |t::u::l,y::ys=>match WV t y with
  |some x=>match toX (u::l) ys with
   |some z=>some (x,z)
   |none=>none
  |none=>none
 |_,_=>none
def ofX:(tys:List Ty)->(Bl tys).T->List Dy
 | [],_=>[]
 | [t],x=>[⟨t,x⟩]
 |t::u::l,x=>⟨t,x.1⟩::ofX (u::l) x.2
theorem WU{t:Ty}{y:Dy}{x:t.T}(h:WV t y=some x):(⟨t,x⟩:Dy)=y:=by
 unfold WV at h;split at h
 ·rename_i ht;subst ht;cases h;rfl
 ·cases h
theorem QD: ∀ (tys:List Ty) (cs:List Dy) (x:(Bl tys).T),toX tys cs=some x->ofX tys x=cs
 | [],[],x,h=>rfl
 | [t],[y],x,h=>by show [(⟨t,x⟩:Dy)]= [y];rw [WU h]
 |t::u::l,y::ys,x,h=>by
  have h:(match WV t y with
   |some x=>match toX (u::l) ys with
    |some z=>some (x,z)
    |none=>none
   |none=>none:Option (Bl (t::u::l)).T)=some x:=h
  split at h
  case h_2=>cases h
  rename_i x1 h1;split at h
  case h_2=>cases h
  rename_i z h2;cases h;show(⟨t,x1⟩:Dy)::ofX (u::l) z=_;rw [WU h1,QD (u::l) ys z h2]
 | [],_::_,_,h=>by cases h
 | [_],[],_,h=>by cases h
 | [_],_::_::_,_,h=>by cases h
 |_::_::_,[],_,h=>by cases h
structure A7 extends Env where
 lp:List (Nat×List Nat×List Nat)
 dn:List (Nat×Nat)
def By:Code->Nat
 | .region id _ _=>id
 | .seq a b=>match a with
  | .skip=>By b
  | .label _=>By b
  |a=>By a
 | .block _ b=>By b
 | .loop b=>By b
 | .scope b=>By b
 |_=>0
def AN:Code->List Oper
 | .region _ ops _=>ops.toList
 | .seq a b=>AN a++AN b
 | .cond _ a b=>AN a++AN b
 | .block _ b=>AN b
 | .loop b=>AN b
 | .scope b=>AN b
 |_=>[]
def NT:Code->List Nat
 | .exit id=>[id]
 | .seq a b=>NT a++NT b
 | .cond _ a b=>NT a++NT b
 | .block id b=>(NT b).filter fun i=>!Nat.beq i id
 | .loop b=>NT b
 |_=>[]
def lookN{α:Type}(d:α):List (Nat×α)->Nat->α
 | [],_=>d
 |(i,x)::l,k=>bif Nat.beq i k then x else lookN d l k
def clId:Cl->List Nat
 | .rf id _=>[id]
 | .rp id _ _ _=>[id]
 | .rs id _ _ _=>[id]
 |_=>[]
def slId:Sl->List Nat
 | .one c=>clId c
 |_=>[]
def condN(s:St)(c:Nat):Bool:=bif Nat.ble 2000000 c then(match slId (s.t (c-2000000))with
 | []=>true
 |_=>false)else bif Nat.ble 1000000 c then(slId (s.t ((c-1000000)/1000))).any fun i=>Nat.beq i ((c-1000000) % 1000)else true
def Uh(s:St):List (Nat×List Nat×List Nat)->Nat->List Nat×List Nat
 | [],_=>([],[])
 |(i,L,R)::l,k=>bif Nat.beq i k then(bif R.all (condN s)then(L,R.filter fun c=>!Nat.ble 1000000 c)else Uh s l k)else Uh s l k
def Wp(o:Oper):Bool:=match o.op with
 | .store _ _ _=>true
 |_=>false
def Aam(o:Oper):Bool:=match o.op with
 | .build _ _=>true
 | .buildSlice _ _ _=>true
 |_=>Wp o
def Wq(E:Env)(o:Oper):Bool:=Wp o||match Wb E o with
 |some (.app _ _ _ _)=>true
 |some (.cw _ _ _)=>true
 |_=>false
def U5:List Oper->Nat
 | []=>0
 |o::l=>match o.op with
  | .assign _=>U5 l+1
  |_=>0
def isNew(ops:Array Oper)(y:Nat):Bool:=ops.toList.any fun o=>match o.op,o.dst with
 | .alloc _,some d=>Nat.beq d y
 |_,_=>false
def isMade(ops:Array Oper)(y:Nat):Bool:=ops.toList.any fun o=>match o.dst with
 |some d=>Nat.beq d y&&(match o.op with
  | .buildSlice _ _ _=>true
  | .makeSlice _ _ _=>true
  |op=>(W3 op).isSome)
 |none=>false
def isLate(E:Env)(ops:Array Oper)(o:Oper):Bool:=match o.op with
 | .store _ (.tmp y) _=>!isNew ops y
 | .store _ _ _=>true
 |_=>match W3 o.op with
  |some (_,.tmp y,_)=>!isMade ops y
  |some _=>true
  |none=>Wq E o
def headD(E:Env)(ops:Array Oper):Nat:=bif ops.toList.any (Wq E)then ops.toList.findIdx (fun o=>Aam o||Wq E o)else
 bif Hg ops (ops.size-U5 ops.toList.reverse)then ops.size-U5 ops.toList.reverse else ops.size
def headN(E:A7)(id:Nat)(ops:Array Oper):Nat:=lookN (bif Hg ops (headD E.toEnv ops)then headD E.toEnv ops else ops.toList.findIdx (isLate E.toEnv ops)) E.dn id
def brkK{R:Type}(K:Exit->St->Option R):List Nat->Nat->St->Option R
 | [],_,_=>none
 |i::l,id,s=>nif id i (K (.exit i) s) (brkK K l id s)
@[reducible] def A3 {X R:Type} (o:Option R):Option (LO X R):=o.map .ret
@[reducible] def LO.fin {X R:Type} (f:Nat->X->Option R):LO X R->Option R
 | .brk id x=>f id x
 | .ret r=>some r
 | .next _=>none
def Un{R:Type}(L Rh:List Nat)(s:St)(keep:Nat)(tys:List Ty)(K:Exit->St->Option R)(e:Exit)(s':St):Option (LO (Bl tys).T R):=match e with
 | .normal=>match Yl L Rh s s' keep with
  |some cs=>match toX tys cs with
   |some x=>some (.next x)
   |none=>none
  |none=>none
 | .exit id=>match Yl L Rh s s' keep with
  |some cs=>match toX tys cs with
   |some x=>some (.brk id x)
   |none=>none
  |none=>none
 | .ret=>A3 (K .ret s')
 |_=>none
def Ys{R:Type}(b:Code)(L Rh:List Nat)(s:St)(tys:List Ty)(K:Exit->St->Option R):LO (Bl tys).T R->Option R:=
 LO.fin fun id x=>brkK K (NT b).eraseDups id (Be false (AN b) L Rh s (ofX tys x))
def HJ(b:List Oper)(L Rh:List Nat)(s:St):Bool:=L.all (fun d=>!(Aq b d&&(s.t d).stay))&&Rh.all fun i=>!(s.r.getD i .dead).isRo
def LW:List Nat->St->St
 | [],s=>s
 |id::l,s=>match s.r.getD id .dead with
  | .arr false (.sl u) d xs=>bif Nat.beq u.dep 0 then LW l ⟨s.t,s.r.set id (.arr false (.osl u) d (My xs))⟩else LW l s
  |_=>LW l s
def ozOf:List (Nat×Nat)->Nat->List Nat
 | [],_=>[]
 |(a,b)::l,k=>bif Nat.beq a (k+1000000)then b::ozOf l k else ozOf l k
theorem JB: ∀ (u:Ty) (d:Nat) (x:u.T),u.dep=0->∀c∈Ax u d x,∀ro,c.node ro= .dead
 | .int _,_,_,_,c,h,_=>by rw [List.mem_singleton.1 h];rfl
 | .bool,_,_,_,c,h,_=>by rw [List.mem_singleton.1 h];rfl
 | .str,_,_,_,c,h,_=>by rw [List.mem_singleton.1 h];rfl
 | .unit,_,_,_,c,h,_=>by cases h
 | .pair a b,d,x,hd,c,h,ro=>by
  simp only [Ty.dep]at hd;rcases List.mem_append.1 h with h|h
  ·exact JB a d x.1 (by omega) c h ro
  ·exact JB b d x.2 (by omega) c h ro
 | .sl _,_,_,h,_,_,_=>by simp [Ty.dep]at h
 | .ptr _,_,_,h,_,_,_=>by simp [Ty.dep]at h
 | .clo _ _,_,_,h,_,_,_=>by simp [Ty.dep]at h
 | .osl _,_,_,h,_,_,_=>by simp [Ty.dep]at h
theorem P7{α:Type}(xs:List (List α))(i:Nat):(My xs).getD i (some [])=some (xs.getD i []):=by
 unfold My;simp only [gDE,List.getElem?_map];cases xs[i]? <;>rfl
theorem Z1{u:Ty}{d:Nat}{xs:List (List u.T)}:(Ae.arr false (.osl u) d (My xs)).v=(Ae.arr false (.sl u) d xs).v:=by
 show arr true 1 (tyV (.osl u) d) (some []) (My xs)=arr true 1 (tyV (.sl u) d) [] xs;unfold arr;have hl:(My xs).length=xs.length:=by simp [My]
 rw [hl]
 congr 1
 funext i k
 rw [P7];rfl
theorem V4{u:Ty}{d:Nat}{xs:List (List u.T)}(hu:u.dep=0): ∀q:A1,((Ae.arr false (.osl u) d (My xs)).at' q).len=((Ae.arr false (.sl u) d xs).at' q).len
 | []=>by show(My xs).length=xs.length;simp [My]
 |(i,0)::q=>by
  show(((Cl.c (.osl u) d ((My xs).getD i (some []))).node false).at' q).len=(((Cl.c (.sl u) d (xs.getD i [])).node false).at' q).len;rw [P7];cases d with
  |zero=>rfl
  |succ d=>
   cases q with
   |nil=>rfl
   |cons a q=>
    obtain⟨i2,k2⟩:=a;show(((([]:List Cl).getD k2 .dead).node false).at' q).len=((((Ax u d ((xs.getD i []).getD i2 u.dflt)).getD k2 .dead).node false).at' q).len
    have e:((Ax u d ((xs.getD i []).getD i2 u.dflt)).getD k2 .dead).node false= .dead:=by
     by_cases hk:k2<(Ax u d ((xs.getD i []).getD i2 u.dflt)).length
     ·rw [gDE,gEE hk]
      exact JB u d _ hu _ (List.getElem_mem hk) _
     ·rw [gDE,List.getElem?_eq_none (by omega)];rfl
    rw [e];rfl
 |(i,k+1)::q=>by
  have e1:(Ae.arr false (.osl u) d (My xs)).at' ((i,k+1)::q)= .dead:=CN q;have e2:(Ae.arr false (.sl u) d xs).at' ((i,k+1)::q)= .dead:=CN q;rw [e1,e2]
theorem Cl.v_lens{r r':List Ae}(h: ∀id q,(Ag r' id q).len=(Ag r id q).len)(y:Cl):y.v r'=y.v r:=by
 cases y with
 |rf id p=>show V.rs id p 0 _=V.rs id p 0 _;rw [h]
 |_=>rfl
theorem Sl.v_lens{r r':List Ae}(h: ∀id q,(Ag r' id q).len=(Ag r id q).len)(y:Sl):y.v r'=y.v r:=by
 have e:Cl.v r'=Cl.v r:=funext fun c=>Cl.v_lens h c
 cases y with
 |one c=>exact Cl.v_lens h c
 |new l=>rfl
 |agg l=>show Ai _=Ai _;rw [e]
 |tup l=>show Df _=Df _;rw [e]
 |pk t l=>show pkL t _=pkL t _;rw [e]
theorem HF: ∀ (l:List Nat) (s:St),(LW l s).den=s.den/\∀g,Kp g s (LW l s)
 | [],s=>⟨rfl,fun g=>Kp.refl _ _⟩
 |id::l,s=>by
  unfold LW;split
  ·rename_i u d xs hr
   cases hb:Nat.beq u.dep 0 with
   |false=>exact HF l s
   |true=>
    have hu:=bqE hb;obtain⟨h1,h2⟩:=HF l ⟨s.t,s.r.set id (.arr false (.osl u) d (My xs))⟩;have hid:id<s.r.length:=by
     rcases Nat.lt_or_ge id s.r.length with h|h
     ·exact h
     ·rw [gDE,List.getElem?_eq_none h]at hr;cases hr
    have hn: ∀id' q,(Ag (s.r.set id (.arr false (.osl u) d (My xs))) id' q).len=(Ag s.r id' q).len:=by
     intro id' q;by_cases he:id'=id
     ·subst he
      unfold Ag;have e:(s.r.set id' (.arr false (.osl u) d (My xs))).getD id' .dead= .arr false (.osl u) d (My xs):=by simp [hid]
      rw [e,hr];exact V4 hu q
     ·rw [BF he]
    have hσ:(s.r.set id (.arr false (.osl u) d (My xs))).map Ae.v=s.r.map Ae.v:=by
     rw [List.map_set,Z1,<-hr];apply List.ext_getElem?;intro i;rw [List.getElem?_set];split
     ·rename_i e
      subst e;simp [hid]
     ·rfl
    refine⟨?_,fun g=>?_⟩
    ·show(LW l _).den=_
     rw [h1];unfold St.den;simp only [hσ]
     congr 1
     funext i
     exact Sl.v_lens hn _
    ·refine Kp.trans (s1:=⟨s.t,s.r.set id (.arr false (.osl u) d (My xs))⟩) (g1:=g) (g2:=g) ⟨fun i _ _=>rfl,fun id' _ hro=>?_,by simp⟩ (h2 g) (fun _ h=>h) fun _ h=>h
     have hne:id≠id':=by
      rintro rfl
      rw [hr]at hro;cases hro
     simp only [gDE,List.getElem?_set_ne hne]
  ·exact HF l s
noncomputable def BN(H:Code->{R:Type}->St->(Exit->St->Option R)->Option R)(E:A7):Code->{R:Type}->St->(Exit->St->Option R)->Option R
 | .skip,_,s,K=>K .normal s
 | .region _ ops false,_,s,K=>U7 E.toEnv ops (US ops.size ops.toList) s (K .normal)
 | .region id ops true,_,s,K=>Zt E.toEnv (headN E id ops) ops s (K .normal)
 | .seq a b,_,s,K=>BN H E a s fun e s'=>match e with
  | .normal=>BN H E b s' K
  | .exit id=>K (.exit id) s'
  | .ret=>K .ret s'
  | .goto l=>K (.goto l) s'
  |_=>none
 | .cond c x y,_,s,K=>match s.ev c with
  |some (.one (.c .bool _ b))=>N9 b (BN H E x s K) (BN H E y s K)
  |_=>none
 | .block id b,_,s,K=>BN H E b s fun e s'=>match e with
  | .exit i=>bif Nat.beq i id then K .normal s' else K (.exit i) s'
  | .normal=>K .normal s'
  | .ret=>K .ret s'
  | .goto l=>K (.goto l) s'
  |_=>none
 | .loop b,R,s0,K=>match LW (ozOf E.dn (By b)) s0 with
  |s=>match Uh s E.lp (By b)with
  |(L,Rh)=>bif HJ (AN b) L Rh s then(match Yl L Rh s s E.h.keep with
   |some cs=>match toX (cs.map (·.t)) cs with
    |some x=>Iu (Ah (fun x=>BN H E b (Be true (AN b) L Rh s (ofX (cs.map (·.t)) x)) (Un L Rh s E.h.keep (cs.map (·.t)) K)) x) (Ys b L Rh s (cs.map (·.t)) K)
    |none=>none
   |none=>none)else none
 | .exit id,_,s,K=>K (.exit id) s
 | .label _,_,s,K=>K .normal s
 | .goto l,_,s,K=>K (.goto l) s
 | .ret,_,s,K=>K .ret s
 | .scope c,_,s,K=>H c s K
 |_,_,_,_=>none
def Bq:Code->List Nat
 | .seq a b=>Bq a++Bq b
 | .label l=>[l]
 |_=>[]
def BV:Code->Nat->Option Code
 | .seq a b,l=>match a with
  | .label l'=>bif Nat.beq l' l then some b else BV b l
  |_=>BV b l
 |_,_=>none
def NC:List Nat->Bool
 | []=>true
 |a::l=>!l.contains a&&NC l
theorem NB: ∀ {l:List Nat},NC l=true->l.Nodup
 | [],_=>List.nodup_nil
 |a::l,h=>by
  have h:(!l.contains a&&NC l)=true:=h;rw [bAE,Bool.not_eq_true']at h;exact List.nodup_cons.2 ⟨fun hm=>by rw [List.contains_eq_mem,decide_eq_false_iff_not]at h;exact h.1 hm,NB h.2⟩
def O3:Code->Bool
 | .label _=>true
 |_=>false
def JU:Code->Bool
 | .seq a b=>(O3 a||(Bq a).isEmpty)&&JU b
 |c=>(Bq c).isEmpty
@[reducible] def LO.fin1 {X R:Type}:LO X R->Option R
 | .ret r=>some r
 |_=>none
def Ux{R:Type}(L Rh:List Nat)(s:St)(keep:Nat)(tys:List Ty)(l:Nat)(s':St):Option (LO (Nat×(Bl tys).T) R):=match Yl L Rh s s' keep with
 |some cs=>match toX tys cs with
  |some x=>some (.next (l,x))
  |none=>none
 |none=>none
def Aas{R:Type}(L Rh:List Nat)(s:St)(keep:Nat)(tys:List Ty)(K:Exit->St->Option R)(e:Exit)(s':St):Option (LO (Nat×(Bl tys).T) R):=match e with
 | .goto l=>Ux L Rh s keep tys l s'
 | .normal=>A3 (K .normal s')
 | .exit id=>A3 (K (.exit id) s')
 | .ret=>A3 (K .ret s')
 |_=>none
noncomputable def D7(E:A7):Code->{R:Type}->St->(Exit->St->Option R)->(Nat->St->Option R)->Option R
 | .seq a b,_,s,K,KL=>match a with
  | .label l=>KL l s
  |a=>BN (fun _ _ _ _=>none) E a s fun e s'=>match e with
   | .normal=>D7 E b s' K KL
   | .exit id=>K (.exit id) s'
   | .ret=>K .ret s'
   | .goto l=>K (.goto l) s'
   |_=>none
 |c,_,s,K,_=>BN (fun _ _ _ _=>none) E c s K
noncomputable def IJ(E:A7)(c:Code)(ops:List Oper)(L Rh:List Nat)(s:St)(tys:List Ty){R:Type}(K:Exit->St->Option R)(l:Nat)(x:(Bl tys).T):List Nat->Option (LO (Nat×(Bl tys).T) R)
 | []=>none
 |i::ls=>nif l i (match BV c i with
  |some rest=>D7 E rest (Be true ops L Rh s (ofX tys x)) (Aas L Rh s E.h.keep tys K) (Ux L Rh s E.h.keep tys)
  |none=>none) (IJ E c ops L Rh s tys K l x ls)
def YW{R:Type}(K:Exit->St->Option R)(e:Exit)(s:St):Option R:=match e with
 | .goto _=>none
 |e=>K e s
noncomputable def VE(E:A7)(c:Code){R:Type}(s:St)(K:Exit->St->Option R):Option R:=bif JU c&&NC (Bq c)then D7 E c s (YW K) fun l s1=>match BV c l with
  |some c1=>match Uh s1 E.lp (By c)with
   |(L,Rh)=>bif HJ (AN c1) L Rh s1 then(match Yl L Rh s1 s1 E.h.keep with
    |some cs=>match toX (cs.map (·.t)) cs with
     |some x=>Iu (Ah (fun y=>IJ E c (AN c1) L Rh s1 (cs.map (·.t)) K y.1 y.2 (Bq c)) (l,x)) LO.fin1
     |none=>none
    |none=>none)else none
  |none=>none else none
noncomputable def Zs(E:A7):Code->{R:Type}->St->(Exit->St->Option R)->Option R:=BN (VE E) E
theorem JM{t0:Nat->Sl}: ∀ (L:List Nat) (cs:List Dy) (t:Nat->Sl) (i:Nat),L.contains i=false->(Kd t0 L cs t).1 i=t i
 | [],cs,t,i,_=>rfl
 |d::L,cs,t,i,h=>by
  rw [List.contains_cons,Bool.or_eq_false_iff]at h;unfold Kd;rw [JM L _ _ i h.2];have hne:i≠d:=by
   intro e;subst e;simp at h
  exact A2 hne
theorem HY{r0:List Ae}: ∀ (Rh:List Nat) (cs:List Dy) (r:List Ae) (i:Nat),Rh.contains i=false->(Hm r0 Rh cs r).getD i .dead=r.getD i .dead
 | [],cs,r,i,_=>rfl
 |d::L,cs,r,i,h=>by
  rw [List.contains_cons,Bool.or_eq_false_iff]at h;unfold Hm;rw [HY L _ _ i h.2];have hne:d≠i:=by
   intro e;subst e;simp at h
  simp only [gDE,List.getElem?_set_ne hne]
theorem HX{r0:List Ae}: ∀ (Rh:List Nat) (cs:List Dy) (r:List Ae),(Hm r0 Rh cs r).length=r.length
 | [],cs,r=>rfl
 |d::L,cs,r=>by unfold Hm;rw [HX L,List.length_set]
theorem O5{ro:Bool}{b:List Oper}{L Rh:List Nat}{s:St}{cs:List Dy}(h:HJ b L Rh s=true):Kp (Aq b) s (Be ro b L Rh s cs):=by
 unfold HJ at h;rw [bAE]at h;refine⟨fun i hi hs=>?_,fun id hl hid=>?_,?_⟩
 ·have hc:L.contains i=false:=by
   cases hc:L.contains i with
   |false=>rfl
   |true=>
    have:=aET.1 h.1 i (by simpa using hc)
    rw [hi,hs]at this;cases this
  show(Kd s.t L cs _).1 i=_;rw [JM L _ _ i hc];show(bif Aq b i&&(s.t i).stay then s.t i else _)=_;rw [hi,hs];rfl
 ·have hc:Rh.contains id=false:=by
   cases hc:Rh.contains id with
   |false=>rfl
   |true=>
    have:=aET.1 h.2 id (by simpa using hc)
    rw [hid]at this;cases this
  show(Hm s.r Rh _ (bif ro then s.r.map BE else s.r)).getD id .dead=_;rw [HY Rh _ _ id hc];cases ro with
  |false=>rfl
  |true=>
   show(s.r.map BE).getD id .dead=_
   have e:(s.r.map BE).getD id .dead=BE (s.r.getD id .dead):=by
    simp only [gDE,List.getElem?_map];cases s.r[id]? <;>rfl
   rw [e];generalize s.r.getD id .dead=x at hid;cases x with
   |dead=>rfl
   |obj ro l=>have hid:ro=true:=hid;subst hid;rfl
   |arr ro t d xs=>have hid:ro=true:=hid;subst hid;rfl
   |opt ro t d xs=>have hid:ro=true:=hid;subst hid;rfl
 ·show s.r.length<=(Hm s.r Rh _ (bif ro then s.r.map BE else s.r)).length
  rw [HX];cases ro<;>simp
theorem KR{b:List Oper}{L Rh:List Nat}{s s':St}{cs:List Dy}(hk:Kp (Aq b) (Be true b L Rh s cs) s'):
  (∀i,L.contains i=false->Aq b i=true->(s.t i).stay=true->s'.t i=s.t i)/\
  (∀id,id<s.r.length->Rh.contains id=false->(s'.r.getD id .dead).v=(s.r.getD id .dead).v/\(s'.r.getD id .dead).len=(s.r.getD id .dead).len)/\
  (∀id,id<s.r.length->Rh.contains id=false->∀q:A1,((s'.r.getD id .dead).at' q).len=((s.r.getD id .dead).at' q).len):=by
 have hR: ∀id,id<s.r.length->Rh.contains id=false->s'.r.getD id .dead=BE (s.r.getD id .dead):=fun id hl hc=>by
  have e:(Be true b L Rh s cs).r.getD id .dead=BE (s.r.getD id .dead):=by
   show(Hm s.r Rh _ (s.r.map BE)).getD id .dead=_;rw [HY Rh _ _ id hc];simp only [gDE,List.getElem?_map];cases s.r[id]? <;>rfl
  have hro:(BE (s.r.getD id .dead)).isRo=true:=by cases s.r.getD id .dead<;>rfl
  have hlen:(Be true b L Rh s cs).r.length=s.r.length:=by
   show(Hm s.r Rh _ (s.r.map BE)).length=_;rw [HX,List.length_map]
  rw [hk.r id (by rw [hlen];exact hl) (by rw [e];exact hro),e]
 refine⟨fun i hc hi hs=>?_,fun id hl hc=>?_,fun id hl hc q=>by rw [hR id hl hc];exact Yy q _ _ (Jk _)⟩
 ·have e:(Be true b L Rh s cs).t i=s.t i:=by
   show(Kd s.t L cs _).1 i=_;rw [JM L _ _ i hc];show(bif Aq b i&&(s.t i).stay then s.t i else _)=_;rw [hi,hs];rfl
  rw [hk.t i hi (by rw [e];exact hs),e]
 ·have e:(Be true b L Rh s cs).r.getD id .dead=BE (s.r.getD id .dead):=by
   show(Hm s.r Rh _ (s.r.map BE)).getD id .dead=_;rw [HY Rh _ _ id hc];simp only [gDE,List.getElem?_map];cases s.r[id]? <;>rfl
  have hro:(BE (s.r.getD id .dead)).isRo=true:=by cases s.r.getD id .dead<;>rfl
  have hlen:(Be true b L Rh s cs).r.length=s.r.length:=by
   show(Hm s.r Rh _ (s.r.map BE)).length=_;rw [HX,List.length_map]
  rw [hk.r id (by rw [hlen];exact hl) (by rw [e];exact hro),e]
  exact LC _
theorem N8{R:Type}{K:Exit->St->Option R}{z:R}{s:St}: ∀ (l:List Nat) (id:Nat),brkK K l id s=some z->K (.exit id) s=some z
 | [],id,h=>by cases h
 |i::l,id,h=>by
  have h:(if id=i then K (.exit i) s else brkK K l id s)=some z:=h
  split at h
  ·rename_i e;subst e;exact h
  ·exact N8 l id h
theorem Z8{P:Program}{H:Code->{R:Type}->St->(Exit->St->Option R)->Option R}{E:A7}{C:Ctx}(hkeep:C.m<=E.h.keep){b:Code}
  (ih: ∀ {R:Type} (s:St) (K:Exit->St->Option R) (z:R) (Q:Exit->Act->World->Prop) (a:Act) (w:World),A0 C E.h.n s.den a w->BN H E b s K=some z->(∀e s' a' w',Kp (Aq (AN b)) s s'->A0 C E.h.n s'.den a' w'->K e s'=some z->Q e a' w')->b.wp P Q a w)
  {R:Type} {s:St} {K:Exit->St->Option R} {z:R} {Q:Exit->Act->World->Prop} {a:Act} {w:World} (hs:A0 C E.h.n s.den a w) {L Rh:List Nat} (hok:HJ (AN b) L Rh s=true) {tys:List Ty} {cs:List Dy} (hcs:Yl L Rh s s E.h.keep=some cs) {x0:(Bl tys).T} (hx0':ofX tys x0=cs)
  (h:(Ah (fun x=>BN H E b (Be true (AN b) L Rh s (ofX tys x)) (Un L Rh s E.h.keep tys K)) x0).bind (Ys b L Rh s tys K)=some z)
  (hQ: ∀e s' a' w',Kp (Aq (AN b)) s s'->A0 C E.h.n s'.den a' w'->K e s'=some z->Q e a' w'):(Code.loop b).wp P Q a w:=by
 obtain⟨hd0,hdd0,D0,ρ0,F0,hcr0⟩:=id hs;have hml:C.m<=s.r.length:=by have:=hcr0.ml;simpa [St.den]using this
 let body:(Bl tys).T->Option (LO (Bl tys).T R):=fun x=>BN H E b (Be true (AN b) L Rh s (ofX tys x)) (Un L Rh s E.h.keep tys K)
 have h:(Ah body x0).bind (Ys b L Rh s tys K)=some z:=h;cases hl:Ah body x0 with
 |none=>rw [hl]at h;cases h
 |some o0=>
  rw [hl]at h;have h:Ys b L Rh s tys K o0=some z:=h;obtain⟨n0,hn0⟩:=Cz.1 hl
  have h0:A0 C E.h.n (Be true (AN b) L Rh s (ofX tys x0)).den a w:=by
   rw [hx0'];exact JL hs hcs hkeep hml (fun _ _ _ _=>rfl) (fun _ _ _=>⟨rfl,rfl⟩) fun _ _ _ _=>rfl
  let I':Act->World->Prop:=fun a w=>∃x n o,Cy body x o n/\Ys b L Rh s tys K o=some z/\A0 C E.h.n (Be true (AN b) L Rh s (ofX tys x)).den a w
  have hmin: ∀ (a:Act) (w:World),∃k,I' a w->(∃x n o,Cy body x o n/\Ys b L Rh s tys K o=some z/\A0 C E.h.n (Be true (AN b) L Rh s (ofX tys x)).den a w/\n=k)/\∀x n o,Cy body x o n->Ys b L Rh s tys K o=some z->A0 C E.h.n (Be true (AN b) L Rh s (ofX tys x)).den a w->k<=n:=by
   intro a w;by_cases hI:I' a w
   ·obtain⟨x,n,o,g1,g2,g3⟩:=hI
    obtain⟨k,hk,hlt⟩:=Aag (p:=fun k=>∃x n o,Cy body x o n/\Ys b L Rh s tys K o=some z/\A0 C E.h.n (Be true (AN b) L Rh s (ofX tys x)).den a w/\n=k) ⟨n,x,n,o,g1,g2,g3,rfl⟩
    exact⟨k,fun _=>⟨hk,fun x n o g1 g2 g3=>Nat.le_of_not_lt fun hl=>hlt n hl ⟨x,n,o,g1,g2,g3,rfl⟩⟩⟩
   ·exact⟨0,fun h=>absurd h hI⟩
  let μ':Act->World->Nat:=fun a w=>Classical.choose (hmin a w)
  have hμ':=fun a w hI=>Classical.choose_spec (hmin a w) hI
  refine wp_loop I' μ' ⟨x0,n0,o0,hn0,h,h0⟩ fun a w hI=>?_
  obtain⟨⟨x,n,o,g1,g2,g3,hn⟩,_⟩:=hμ' a w hI;have hn:n=μ' a w:=hn
  -- the round's own answer
  have hround: ∃lo,body x=some lo/\((∃y n',lo= .next y/\Cy body y o n'/\n=n'+1)\/(lo=o)):=by
   cases g1 with
   |brk h'=>exact⟨_,h',.inr rfl⟩
   |ret h'=>exact⟨_,h',.inr rfl⟩
   |step h' h2=>exact⟨_,h',.inl ⟨_,_,rfl,h2,rfl⟩⟩
  obtain⟨lo,hlo,hcase⟩:=hround;refine ih _ _ lo _ a w g3 hlo fun e s' a' w' hk hs' hz=>?_
  obtain⟨f1,f2,f3⟩:=KR hk;have hk0:Kp (Aq (AN b)) s s':=Kp.trans (O5 hok) hk (fun _ h=>h) fun _ h=>h
  cases e with
  |normal=>
   unfold Un at hz;simp only at hz;split at hz
   case h_2=>cases hz
   rename_i cs2 hcs2;split at hz
   case h_2=>cases hz
   rename_i x2 hx2;cases hz;rcases hcase with⟨y,n',he,hl2,hnn⟩|he
   ·cases he
    have hs2:A0 C E.h.n (Be true (AN b) L Rh s (ofX tys x2)).den a' w':=by
     rw [QD _ _ _ hx2];exact JL hs' hcs2 hkeep hml f1 f2 f3
    have hI2:I' a' w':=⟨x2,n',o,hl2,g2,hs2⟩;refine⟨hI2,?_⟩;have:=(hμ' a' w' hI2).2 x2 n' o hl2 g2 hs2;have:μ' a' w'<=n':=this;omega
   ·subst he
    cases g2
  |exit id=>
   unfold Un at hz;simp only at hz;split at hz
   case h_2=>cases hz
   rename_i cs2 hcs2;split at hz
   case h_2=>cases hz
   rename_i x2 hx2;cases hz;rcases hcase with⟨y,n',he,_⟩|he
   ·cases he
   ·subst he
    have g2:brkK K (NT b).eraseDups id (Be false (AN b) L Rh s (ofX tys x2))=some z:=g2
    have hs2:A0 C E.h.n (Be false (AN b) L Rh s (ofX tys x2)).den a' w':=by
     rw [QD _ _ _ hx2];exact JL hs' hcs2 hkeep hml f1 f2 f3
    exact hQ _ _ _ _ (O5 hok) hs2 (N8 _ _ g2)
  |ret=>
   have hz:(K .ret s').map LO.ret=some lo:=hz;cases hkr:K .ret s' with
   |none=>rw [hkr]at hz;cases hz
   |some r=>
    rw [hkr]at hz;cases hz;rcases hcase with⟨y,n',he,_⟩|he
    ·cases he
    ·subst he
     cases g2;exact hQ _ _ _ _ hk0 hs' hkr
  |goto l=>cases hz
  |panic ch=>cases hz
  |outgrown=>cases hz
def J5(P:Program)(E:A7)(C:Ctx)(H:Code->{R:Type}->St->(Exit->St->Option R)->Option R):Prop:=
 ∀ (c:Code) {R:Type} (s:St) (K:Exit->St->Option R) (z:R) (Q:Exit->Act->World->Prop) (a:Act) (w:World),A0 C E.h.n s.den a w->H c s K=some z->
  (∀e s' a' w',Kp (Aq (AN c)) s s'->A0 C E.h.n s'.den a' w'->K e s'=some z->Q e a' w')->(Code.scope c).wp P Q a w
theorem MJ{P:Program}{H:Code->{R:Type}->St->(Exit->St->Option R)->Option R}{E:A7}{C:Ctx}(hE:EOK P E.toEnv)(hm:P.follows .mixedOrders=true)(hkeep:C.m<=E.h.keep)(hH:J5 P E C H): ∀ (c:Code) {R:Type} (s:St) (K:Exit->St->Option R) (z:R) (Q:Exit->Act->World->Prop) (a:Act) (w:World),A0 C E.h.n s.den a w->BN H E c s K=some z->
  (∀e s' a' w',Kp (Aq (AN c)) s s'->A0 C E.h.n s'.den a' w'->K e s'=some z->Q e a' w')->c.wp P Q a w:=by
 intro c
 induction c with
 |skip=>intro R s K z Q a w hs h hQ;exact wp_skip (hQ _ _ _ _ (Kp.refl _ _) hs h)
 |region id ops draw=>
  intro R s K z Q a w hs h hQ;cases draw with
  |false=>
   have h:U7 E.toEnv ops (US ops.size ops.toList) s (K .normal)=some z:=h;refine wp_region_list ?_;have:=U6 hE (ops:=ops) (Q:=Q) _ s a w hs h fun s' a' w' hk hs' hz=>hQ .normal s' a' w' (by rw [Cm]at hk;exact hk) hs' hz
   rw [Cm]at this;exact this
  |true=>exact XA hE hm hs h fun s' a' w' hk hs' hz=>hQ .normal s' a' w' hk hs' hz
 |seq x y ihx ihy=>
  intro R s K z Q a w hs h hQ
  have hsp: ∀i,Aq (AN (.seq x y)) i=true->Aq (AN x) i=true/\Aq (AN y) i=true:=fun i hi=>by
   have hi:Aq (AN x++AN y) i=true:=hi;rw [DK,bAE]at hi;exact hi
  refine wp_seq (ihx s _ z _ a w hs h fun e s' a' w' hk hs' hz=>?_)
  have hk':Kp (Aq (AN (.seq x y))) s s':=hk.weak fun i hi=>(hsp i hi).1
  cases e with
  |normal=>exact ihy s' K z Q a' w' hs' hz fun e2 s2 a2 w2 hk2 hs2 hz2=>hQ e2 s2 a2 w2 (hk.trans hk2 (fun i hi=>(hsp i hi).1) fun i hi=>(hsp i hi).2) hs2 hz2
  |exit id=>exact hQ _ _ _ _ hk' hs' hz
  |ret=>exact hQ _ _ _ _ hk' hs' hz
  |goto l=>exact hQ _ _ _ _ hk' hs' hz
  |panic ch=>cases hz
  |outgrown=>cases hz
 |cond c x y ihx ihy=>
  intro R s K z Q a w hs h hQ
  have hsp: ∀i,Aq (AN (.cond c x y)) i=true->Aq (AN x) i=true/\Aq (AN y) i=true:=fun i hi=>by
   have hi:Aq (AN x++AN y) i=true:=hi;rw [DK,bAE]at hi;exact hi
  have h:(match s.ev c with
   |some (.one (.c .bool _ b))=>bif b then BN H E x s K else BN H E y s K
   |_=>none)=some z:=h
  split at h
  ·rename_i d b hb
   obtain⟨hdd,D,ρ,F,hcr⟩:=hs.2;have h1:=B7 hcr hdd c;rw [Bd hb]at h1;refine wp_cond (t:=b) h1.1 ?_;cases b with
   |true=>exact ihx s K z Q a w hs h fun e s' a' w' hk=>hQ e s' a' w' (hk.weak fun i hi=>(hsp i hi).1)
   |false=>exact ihy s K z Q a w hs h fun e s' a' w' hk=>hQ e s' a' w' (hk.weak fun i hi=>(hsp i hi).2)
  ·cases h
 |block id b ih=>
  intro R s K z Q a w hs h hQ;refine wp_block (ih s _ z _ a w hs h fun e s' a' w' hk hs' hz=>?_)
  cases e with
  |exit id'=>
   simp only [Exit.inBlock];have hz:(bif Nat.beq id' id then K .normal s' else K (.exit id') s')=some z:=hz;by_cases he:id'=id
   ·subst he
    rw [Nat.beq_refl]at hz;rw [if_pos rfl];exact hQ _ _ _ _ hk hs' hz
   ·rw [BB he]at hz
    rw [if_neg he];exact hQ _ _ _ _ hk hs' hz
  |normal=>exact hQ _ _ _ _ hk hs' hz
  |ret=>exact hQ _ _ _ _ hk hs' hz
  |goto l=>exact hQ _ _ _ _ hk hs' hz
  |panic ch=>cases hz
  |outgrown=>cases hz
 |loop b ih=>
  intro R s0 K z Q a w hs h hQ;unfold BN at h;obtain⟨s,hso⟩: ∃s,s=LW (ozOf E.dn (By b)) s0:=⟨_,rfl⟩;rw [<-hso]at h;obtain⟨hden,hkp⟩:=HF (ozOf E.dn (By b)) s0;rw [<-hso]at hden hkp;rw [<-hden]at hs;have hQ: ∀e s' a' w',Kp (Aq (AN (.loop b))) s s'->A0 C E.h.n s'.den a' w'->K e s'=some z->Q e a' w':=fun e s' a' w' hk=>hQ e s' a' w' ((hkp _).trans hk (fun _ h=>h) fun _ h=>h)
  have h:(match Uh s E.lp (By b)with
   |(L,Rh)=>bif HJ (AN b) L Rh s then(match Yl L Rh s s E.h.keep with
    |some cs=>match toX (cs.map (·.t)) cs with
     |some x=>Iu (Ah (fun x=>BN H E b (Be true (AN b) L Rh s (ofX (cs.map (·.t)) x)) (Un L Rh s E.h.keep (cs.map (·.t)) K)) x) (Ys b L Rh s (cs.map (·.t)) K)
     |none=>none
    |none=>none)else none)=some z:=h
  split at h
  rename_i L Rh hlp;cases hok:HJ (AN b) L Rh s with
  |false=>rw [hok]at h;cases h
  |true=>
   rw [hok]at h;simp only [cond_true]at h;split at h
   case h_2=>cases h
   rename_i cs hcs;split at h
   case h_2=>cases h
   rename_i x0 hx0;have hx0':=QD _ _ _ hx0;exact Z8 hkeep ih hs hok hcs hx0' h hQ
 |exit id=>intro R s K z Q a w hs h hQ;exact wp_exit (hQ _ _ _ _ (Kp.refl _ _) hs h)
 |label l=>intro R s K z Q a w hs h hQ;exact wp_label (hQ _ _ _ _ (Kp.refl _ _) hs h)
 |ret=>intro R s K z Q a w hs h hQ;exact wp_ret (hQ _ _ _ _ (Kp.refl _ _) hs h)
 |goto l=>intro R s K z Q a w hs h hQ;exact wp_goto (hQ _ _ _ _ (Kp.refl _ _) hs h)
 |rangeFunc f ps x y _ _=>intro R s K z Q a w hs h hQ;cases h
 |scope c _=>intro R s K z Q a w hs h hQ;exact hH c s K z Q a w hs h hQ
 |refuse s=>intro R s K z Q a w hs h hQ;cases h
theorem Lk{P:Program}{a:Act}{w:World}{Q:Exit->Act->World->Prop}{c:Code}(J:Nat->Act->World->Prop)(μ:Nat->Act->World->Nat)
  (first:c.wp P (fun e a w=>match e with
   | .goto l=>(∃r,findLabel c l=some r)/\J l a w
   |e=>Q e a w) a w)
  (pass: ∀l r a w,findLabel c l=some r->J l a w->r.wp P (fun e a' w'=>match e with
   | .goto l'=>(∃r',findLabel c l'=some r')/\J l' a' w'/\μ l' a' w'<μ l a w
   |e=>Q e a' w') a w):(Code.scope c).wp P Q a w:=by
 intro b k cs;have hg: ∀l r,findLabel c l=some r->gotoIn l (.inScope c::k)=some (.code r:: .inScope c::k):=fun l r hf=>by simp [gotoIn,hf]
 have key: ∀n l r a w,findLabel c l=some r->μ l a w=n->J l a w->∃e a' w',Q e a' w'/\Arrives P (lone (b.at a (.code r:: .inScope c::k)) cs w) b k cs e a' w':=by
  intro n
  induction n using Nat.strongRecOn with
  |_ n ih=>
   intro l r a w hf hn hJ;obtain⟨e,a₁,w₁,hq,harr⟩:=pass l r a w hf hJ b (.inScope c::k) cs;cases e with
   |normal=>exact⟨.normal,a₁,w₁,hq,Steps.trans harr (.one step_inScope)⟩
   |exit id=>exact⟨.exit id,a₁,w₁,hq,fun k' hk=>harr k' (by simp [exitTo,hk])⟩
   |goto l'=>
    obtain⟨⟨r',hf'⟩,hJ',hlt⟩:=hq;obtain⟨e₂,a₂,w₂,hq₂,harr₂⟩:=ih _ (by omega) l' r' a₁ w₁ hf' rfl hJ'
    exact⟨e₂,a₂,w₂,hq₂,.of_steps (harr _ (hg l' r' hf')) harr₂⟩
   |ret=>exact⟨_,a₁,w₁,hq,harr⟩
   |panic ch=>exact⟨_,a₁,w₁,hq,harr⟩
   |outgrown=>exact⟨_,a₁,w₁,hq,harr⟩
 obtain⟨e,a₁,w₁,hq,harr⟩:=first b (.inScope c::k) cs
 cases e with
 |normal=>exact⟨.normal,a₁,w₁,hq,.head step_scope (Steps.trans harr (.one step_inScope))⟩
 |exit id=>exact⟨.exit id,a₁,w₁,hq,fun k' hk=>.head step_scope (harr k' (by simp [exitTo,hk]))⟩
 |goto l'=>
  obtain⟨⟨r',hf'⟩,hJ'⟩:=hq;obtain⟨e₂,a₂,w₂,hq₂,harr₂⟩:=key _ l' r' a₁ w₁ hf' rfl hJ';exact⟨e₂,a₂,w₂,hq₂,.of_steps (.head step_scope (harr _ (hg l' r' hf'))) harr₂⟩
 |ret=>exact⟨_,a₁,w₁,hq,.of_steps (.one step_scope) harr⟩
 |panic ch=>exact⟨_,a₁,w₁,hq,.of_steps (.one step_scope) harr⟩
 |outgrown=>exact⟨_,a₁,w₁,hq,.of_steps (.one step_scope) harr⟩
theorem C5{a b:Code}(h: ¬∃l,a= .label l)(l:Nat):BV (.seq a b) l=BV b l:=by
 cases a<;>first|rfl|exact absurd ⟨_,rfl⟩ h
theorem QE{E:A7}{a b:Code}(h: ¬∃l,a= .label l){R:Type}(s:St)(K:Exit->St->Option R)(KL:Nat->St->Option R):D7 E (.seq a b) s K KL=BN (fun _ _ _ _=>none) E a s fun e s'=>match e with
   | .normal=>D7 E b s' K KL
   | .exit id=>K (.exit id) s'
   | .ret=>K .ret s'
   | .goto l=>K (.goto l) s'
   |_=>none:=by
 cases a<;>first|rfl|exact absurd ⟨_,rfl⟩ h
theorem Hj: ∀ (c:Code) (l:Nat),(Bq c).isEmpty=true->findLabel c l=none
 | .seq a b,l,h=>by
  have h:(Bq a++Bq b).isEmpty=true:=h;rw [List.isEmpty_iff,List.append_eq_nil_iff]at h;have h:(Bq a).isEmpty=true/\(Bq b).isEmpty=true:=⟨by rw [h.1];rfl,by rw [h.2];rfl⟩
  unfold findLabel;rw [Hj a l h.1,Hj b l h.2]
 | .label l',l,h=>by cases h
 | .skip,_,_=>rfl
 | .region ..,_,_=>rfl
 | .cond ..,_,_=>rfl
 | .block ..,_,_=>rfl
 | .loop ..,_,_=>rfl
 | .exit ..,_,_=>rfl
 | .goto ..,_,_=>rfl
 | .ret,_,_=>rfl
 | .scope ..,_,_=>rfl
 | .rangeFunc ..,_,_=>rfl
 | .refuse ..,_,_=>rfl
theorem I0{P:Program}: ∀ (c b:Code) (l:Nat),JU c=true->BV c l=some b->∃r,findLabel c l=some r/\∀Q a w,b.wp P Q a w->r.wp P Q a w
 | .seq a b',b,l,hc,h=>by
  have hc:((O3 a||(Bq a).isEmpty)&&JU b')=true:=hc;rw [bAE,Bool.or_eq_true]at hc;by_cases hl: ∃l',a= .label l'
  ·obtain⟨l',rfl⟩:=hl
   have h:(bif Nat.beq l' l then some b' else BV b' l)=some b:=h;cases he:Nat.beq l' l with
   |true=>
    rw [he]at h;have e:l'=l:=bqE he;subst e;obtain rfl:b'=b:=Option.some.inj h;exact⟨.seq .skip b',by simp [findLabel],fun Q a w hw=>wp_seq (wp_skip hw)⟩
   |false=>
    rw [he]at h;obtain⟨r,h1,h2⟩:=I0 b' b l hc.2 h;refine⟨r,?_,h2⟩;have e:l'≠l:=fun e=>by subst e;rw [Nat.beq_refl]at he;cases he
    simp [findLabel,e,h1]
  ·rw [C5 hl]at h
   obtain⟨r,h1,h2⟩:=I0 b' b l hc.2 h;refine⟨r,?_,h2⟩;have hn:findLabel a l=none:=by
    rcases hc.1 with h'|h'
    ·exfalso
     unfold O3 at h';split at h'
     ·exact hl ⟨_,rfl⟩
     ·cases h'
    ·exact Hj a l h'
   unfold findLabel;rw [hn,h1]
 | .label ..,_,_,_,h=>by cases h
 | .skip,_,_,_,h=>by cases h
 | .region ..,_,_,_,h=>by cases h
 | .cond ..,_,_,_,h=>by cases h
 | .block ..,_,_,_,h=>by cases h
 | .loop ..,_,_,_,h=>by cases h
 | .exit ..,_,_,_,h=>by cases h
 | .goto ..,_,_,_,h=>by cases h
 | .ret,_,_,_,h=>by cases h
 | .scope ..,_,_,_,h=>by cases h
 | .rangeFunc ..,_,_,_,h=>by cases h
 | .refuse ..,_,_,_,h=>by cases h
def KW:Code->Option Nat
 | .seq a b=>match a with
  | .label l=>some l
  |_=>KW b
 |_=>none
theorem KV{a b:Code}(h: ¬∃l,a= .label l):KW (.seq a b)=KW b:=by
 cases a<;>first|rfl|exact absurd ⟨_,rfl⟩ h
theorem OB{b r:Code}{l i:Nat}: ∀ {c:Code},KW c=some l->BV c l=some b->BV c i=some r->(i=l/\r=b)\/BV b i=some r:=by
 intro c
 induction c with
 |seq a b' iha ihb=>
  intro h1 h2 h3;by_cases hl: ∃l',a= .label l'
  ·obtain⟨l',rfl⟩:=hl
   have h1:some l'=some l:=h1;cases h1;have h2:(bif Nat.beq l l then some b' else BV b' l)=some b:=h2;rw [Nat.beq_refl]at h2;obtain rfl:b'=b:=Option.some.inj h2;have h3:(bif Nat.beq l i then some b' else BV b' i)=some r:=h3;cases he:Nat.beq l i with
   |true=>rw [he]at h3;cases h3;exact .inl ⟨(bqE he).symm,rfl⟩
   |false=>rw [he]at h3;exact .inr h3
  ·have e1:=KV (b:=b') hl
   have e2:=C5 (b:=b') hl;rw [e1]at h1;rw [e2]at h2 h3;exact ihb h1 h2 h3
 |_=>intro h1;cases h1
theorem Jr{i:Nat}: ∀ (c b:Code) (l:Nat),BV c l=some b->Aq (AN c) i=true->Aq (AN b) i=true:=by
 intro c
 induction c with
 |seq a b' iha ihb=>
  intro b l h hi;have hi:Aq (AN a++AN b') i=true:=hi;rw [DK,bAE]at hi;by_cases hl: ∃l',a= .label l'
  ·obtain⟨l',rfl⟩:=hl
   have h:(bif Nat.beq l' l then some b' else BV b' l)=some b:=h;cases he:Nat.beq l' l with
   |true=>rw [he]at h;cases h;exact hi.2
   |false=>rw [he]at h;exact ihb b l h hi.2
  ·rw [C5 hl]at h;exact ihb b l h hi.2
 |_=>intro b l h;cases h
theorem J5.none{P:Program}{E:A7}{C:Ctx}:J5 P E C (fun _ _ _ _=>.none):=fun _ _ _ _ _ _ _ _ _ h=>by cases h
theorem MI{P:Program}{E:A7}{C:Ctx}(hE:EOK P E.toEnv)(hm:P.follows .mixedOrders=true)(hkeep:C.m<=E.h.keep): ∀ (c:Code) {R:Type} (s:St) (K:Exit->St->Option R) (KL:Nat->St->Option R) (z:R) (Q:Exit->Act->World->Prop) (a:Act) (w:World),A0 C E.h.n s.den a w->D7 E c s K KL=some z->
  (∀e s' a' w',Kp (Aq (AN c)) s s'->A0 C E.h.n s'.den a' w'->K e s'=some z->Q e a' w')->
  (∀l b s' a' w',Kp (Aq (AN c)) s s'->A0 C E.h.n s'.den a' w'->KL l s'=some z->KW c=some l->BV c l=some b->b.wp P Q a' w')->c.wp P Q a w:=by
 have base: ∀ (c:Code) {R:Type} (s:St) (K:Exit->St->Option R) (z:R) (Q:Exit->Act->World->Prop) (a:Act) (w:World),A0 C E.h.n s.den a w->BN (fun _ _ _ _=>.none) E c s K=some z->
  (∀e s' a' w',Kp (Aq (AN c)) s s'->A0 C E.h.n s'.den a' w'->K e s'=some z->Q e a' w')->c.wp P Q a w:=MJ hE hm hkeep J5.none
 intro c
 induction c with
 |seq x y ihx ihy=>
  intro R s K KL z Q a w hs h hQ hL
  have hsp: ∀i,Aq (AN (.seq x y)) i=true->Aq (AN x) i=true/\Aq (AN y) i=true:=fun i hi=>by
   have hi:Aq (AN x++AN y) i=true:=hi;rw [DK,bAE]at hi;exact hi
  by_cases hl: ∃l,x= .label l
  ·obtain⟨l,rfl⟩:=hl
   have h:KL l s=some z:=h;exact wp_seq (wp_label (hL l y s a w (Kp.refl _ _) hs h rfl (by show(bif Nat.beq l l then some y else BV y l)=_;rw [Nat.beq_refl];rfl)))
  ·have h:BN (fun _ _ _ _=>.none) E x s (fun e s'=>match e with
    | .normal=>D7 E y s' K KL
    | .exit id=>K (.exit id) s'
    | .ret=>K .ret s'
    | .goto l=>K (.goto l) s'
    |_=>.none)=some z:=(QE hl s K KL).symm.trans h
   have e1:=KV (b:=y) hl;have e2:=C5 (b:=y) hl;refine wp_seq (base x s _ z _ a w hs h fun e s' a' w' hk hs' hz=>?_)
   have hk':Kp (Aq (AN (.seq x y))) s s':=hk.weak fun i hi=>(hsp i hi).1
   cases e with
   |normal=>
    exact ihy s' K KL z Q a' w' hs' hz (fun e2 s2 a2 w2 hk2 hs2 hz2=>hQ e2 s2 a2 w2 (hk.trans hk2 (fun i hi=>(hsp i hi).1) fun i hi=>(hsp i hi).2) hs2 hz2)
     fun l b s2 a2 w2 hk2 hs2 hz2 h1 h2=>hL l b s2 a2 w2 (hk.trans hk2 (fun i hi=>(hsp i hi).1) fun i hi=>(hsp i hi).2) hs2 hz2 (e1.trans h1) ((e2 l).trans h2)
   |exit id=>exact hQ _ _ _ _ hk' hs' hz
   |ret=>exact hQ _ _ _ _ hk' hs' hz
   |goto l=>exact hQ _ _ _ _ hk' hs' hz
   |panic ch=>cases hz
   |outgrown=>cases hz
 |skip=>intro R s K KL z Q a w hs h hQ _;exact base _ s K z Q a w hs h hQ
 |region=>intro R s K KL z Q a w hs h hQ _;exact base _ s K z Q a w hs h hQ
 |cond=>intro R s K KL z Q a w hs h hQ _;exact base _ s K z Q a w hs h hQ
 |block=>intro R s K KL z Q a w hs h hQ _;exact base _ s K z Q a w hs h hQ
 |loop=>intro R s K KL z Q a w hs h hQ _;exact base _ s K z Q a w hs h hQ
 |exit=>intro R s K KL z Q a w hs h hQ _;exact base _ s K z Q a w hs h hQ
 |label=>intro R s K KL z Q a w hs h hQ _;exact base _ s K z Q a w hs h hQ
 |ret=>intro R s K KL z Q a w hs h hQ _;exact base _ s K z Q a w hs h hQ
 |goto=>intro R s K KL z Q a w hs h hQ _;exact base _ s K z Q a w hs h hQ
 |rangeFunc=>intro R s K KL z Q a w hs h hQ _;exact base _ s K z Q a w hs h hQ
 |scope=>intro R s K KL z Q a w hs h hQ _;exact base _ s K z Q a w hs h hQ
 |refuse=>intro R s K KL z Q a w hs h hQ _;exact base _ s K z Q a w hs h hQ
theorem Jp{E:A7}{c:Code}{ops:List Oper}{L Rh:List Nat}{s:St}{tys:List Ty}{R:Type}{K:Exit->St->Option R}{l:Nat}{x:(Bl tys).T}{o:LO (Nat×(Bl tys).T) R}: ∀ (ls:List Nat),IJ E c ops L Rh s tys K l x ls=some o->
  ∃r,BV c l=some r/\D7 E r (Be true ops L Rh s (ofX tys x)) (Aas L Rh s E.h.keep tys K) (Ux L Rh s E.h.keep tys)=some o
 | [],h=>by cases h
 |i::ls,h=>by
  have h:(if l=i then(match BV c i with
   |some rest=>D7 E rest (Be true ops L Rh s (ofX tys x)) (Aas L Rh s E.h.keep tys K) (Ux L Rh s E.h.keep tys)
   | .none=>.none)else IJ E c ops L Rh s tys K l x ls)=some o:=h
  split at h
  ·rename_i e
   subst e;split at h
   ·rename_i r hr;exact⟨r,hr,h⟩
   ·cases h
  ·exact Jp ls h
theorem VI{X R:Type}{o:Option R}{lo:LO X R}(h:A3 o=some lo): ∃z,o=some z/\lo= .ret z:=by
 cases o with
 |none=>cases h
 |some z=>cases h;exact⟨z,rfl,rfl⟩
theorem VJ: ∀ {c b:Code} {l:Nat},BV c l=some b->l∈Bq c:=by
 intro c
 induction c with
 |seq a b' iha ihb=>
  intro b l h;show l∈Bq a++Bq b';by_cases hl: ∃l',a= .label l'
  ·obtain⟨l',rfl⟩:=hl
   have h:(bif Nat.beq l' l then some b' else BV b' l)=some b:=h;cases he:Nat.beq l' l with
   |true=>rw [<-bqE he];simp [Bq]
   |false=>rw [he]at h;exact List.mem_append_right _ (ihb h)
  ·rw [C5 hl]at h;exact List.mem_append_right _ (ihb h)
 |_=>intro b l h;cases h
theorem Q2: ∀ {c b r:Code} {l i:Nat},(Bq c).Nodup->BV c l=some b->BV b i=some r->BV c i=some r:=by
 intro c
 induction c with
 |seq a b' iha ihb=>
  intro b r l i hn h1 h2;have hn:(Bq a++Bq b').Nodup:=hn;rw [List.nodup_append]at hn;by_cases hl: ∃l',a= .label l'
  ·obtain⟨k,rfl⟩:=hl
   have h1:(bif Nat.beq k l then some b' else BV b' l)=some b:=h1;have hi:BV b' i=some r:=by
    cases he:Nat.beq k l with
    |true=>rw [he]at h1;cases h1;exact h2
    |false=>rw [he]at h1;exact ihb hn.2.1 h1 h2
   have hne:k≠i:=hn.2.2 k (by simp [Bq]) i (VJ hi)
   show(bif Nat.beq k i then some b' else BV b' i)=_;rw [BB hne];exact hi
  ·have e2:=C5 (b:=b') hl
   rw [e2]at h1⊢;exact ihb hn.2.1 h1 h2
 |_=>intro b r l i _ h;cases h
theorem VD{P:Program}{E:A7}{C:Ctx}(hE:EOK P E.toEnv)(hm:P.follows .mixedOrders=true)(hkeep:C.m<=E.h.keep):J5 P E C (VE E):=by
 intro c R s K z Q a w hs h hQ;unfold VE at h;cases hch:JU c&&NC (Bq c)with
 |false=>rw [hch]at h;cases h
 |true=>
 rw [hch]at h;rw [bAE]at hch;obtain⟨hch,hnd⟩:=hch;have hnd:=NB hnd;have h:D7 E c s (YW K) _=some z:=h
 let D:Nat->Nat->Act->World->Prop:=fun n l a w=>∃ (l0:Nat) (c1:Code) (L Rh:List Nat) (s1:St) (tys:List Ty) (x:(Bl tys).T),KW c=some l0/\BV c l0=some c1/\HJ (AN c1) L Rh s1=true/\Kp (Aq (AN c)) s s1/\C.m<=s1.r.length/\
  Cy (fun y:Nat×(Bl tys).T=>IJ E c (AN c1) L Rh s1 tys K y.1 y.2 (Bq c)) (l,x) (.ret z) n/\A0 C E.h.n (Be true (AN c1) L Rh s1 (ofX tys x)).den a w
 have claim: ∀n l a w,D n l a w->∃b,BV c l=some b/\b.wp P (fun e a' w'=>match e with
   | .goto l'=>∃n',n'<n/\D n' l' a' w'
   |e=>Q e a' w') a w:=by
  intro n
  induction n using Nat.strongRecOn with
  |_ n ih=>
  intro l a w hD;obtain⟨l0,c1,L,Rh,s1,tys,x,hf0,hr0,hok,hk1,hml,hT,hsr⟩:=hD
  have hround: ∃lo,IJ E c (AN c1) L Rh s1 tys K l x (Bq c)=some lo/\((∃y n',lo= .next y/\Cy (fun y:Nat×(Bl tys).T=>IJ E c (AN c1) L Rh s1 tys K y.1 y.2 (Bq c)) y (.ret z) n'/\n=n'+1)\/(lo= .ret z)):=by
   cases hT with
   |ret h'=>exact⟨_,h',.inr rfl⟩
   |step h' h2=>exact⟨_,h',.inl ⟨_,_,rfl,h2,rfl⟩⟩
  obtain⟨lo,hlo,hcase⟩:=hround;obtain⟨b,hb,hex⟩:=Jp _ hlo;refine⟨b,hb,?_⟩
  have hdst: ∀i,Aq (AN c1) i=true->Aq (AN b) i=true:=fun i hi=>by
   rcases OB (c:=c) hf0 hr0 hb with⟨_,rfl⟩|h
   ·exact hi
   ·exact Jr c1 b l h hi
  have hgo: ∀ (l':Nat) (s':St) (a':Act) (w':World),Kp (Aq (AN b)) (Be true (AN c1) L Rh s1 (ofX tys x)) s'->A0 C E.h.n s'.den a' w'->Ux L Rh s1 E.h.keep tys l' s'=some lo->∃n',n'<n/\D n' l' a' w':=by
   intro l' s' a' w' hk hs' hx;unfold Ux at hx;split at hx
   case h_2=>cases hx
   rename_i cs2 hcs2;split at hx
   case h_2=>cases hx
   rename_i x2 hx2;cases hx;rcases hcase with⟨y,n',he,hT',hn'⟩|he
   ·cases he
    obtain⟨f1,f2,f3⟩:=KR (hk.weak hdst);refine⟨n',by omega,l0,c1,L,Rh,s1,tys,x2,hf0,hr0,hok,hk1,hml,hT',?_⟩
    rw [QD _ _ _ hx2];exact JL hs' hcs2 hkeep hml f1 f2 f3
   ·cases he
  have hk0: ∀s',Kp (Aq (AN b)) (Be true (AN c1) L Rh s1 (ofX tys x)) s'->Kp (Aq (AN c)) s s':=fun s' hk=>
   Kp.trans hk1 (Kp.trans (O5 hok) hk (g:=Aq (AN c)) (fun i hi=>Jr c c1 l0 hr0 hi) fun i hi=>Jr c b l hb hi) (fun _ h=>h) fun _ h=>h
  refine MI hE hm hkeep b _ _ _ lo _ a w hsr hex (fun e s' a' w' hk hs' hz=>?_) fun l' b' s' a' w' hk hs' hz _ h2=>?_
  ·have hret: ∀e',A3 (K e' s')=some lo->Q e' a' w':=fun e' hz=>by
    obtain⟨z',h1,rfl⟩:=VI hz;rcases hcase with⟨_,_,he,_⟩|he
    ·cases he
    ·cases he
     exact hQ _ _ _ _ (hk0 s' hk) hs' h1
   cases e with
   |goto l'=>exact hgo l' s' a' w' hk hs' hz
   |normal=>exact hret _ hz
   |exit id=>exact hret _ hz
   |ret=>exact hret _ hz
   |panic ch=>cases hz
   |outgrown=>cases hz
  ·obtain⟨n',hn',hD'⟩:=hgo l' s' a' w' hk hs' hz
   obtain⟨b2,hb2,hw2⟩:=ih n' hn' l' a' w' hD';rw [Q2 hnd hb h2]at hb2;cases hb2;refine _root_.Go.wp_mono hw2 fun e a w hq=>?_
   cases e with
   |goto l2=>obtain⟨n2,h1,h2⟩:=hq;exact⟨n2,by omega,h2⟩
   |normal=>exact hq
   |exit id=>exact hq
   |ret=>exact hq
   |panic ch=>exact hq
   |outgrown=>exact hq
 have hlab: ∀n l a w,D n l a w->∃r,findLabel c l=some r:=fun n l a w hD=>by
  obtain⟨b,hb,_⟩:=claim n l a w hD;obtain⟨r,hr,_⟩:=I0 (P:=P) c b l hch hb;exact⟨r,hr⟩
 have hmin: ∀ (l:Nat) (a:Act) (w:World),∃k,(∃n,D n l a w)->D k l a w/\∀n,D n l a w->k<=n:=by
  intro l a w;by_cases hJ: ∃n,D n l a w
  ·obtain⟨k,hk,hlt⟩:=Aag hJ
   exact⟨k,fun _=>⟨hk,fun n hn=>Nat.le_of_not_lt fun hl=>hlt n hl hn⟩⟩
  ·exact⟨0,fun h=>absurd h hJ⟩
 refine Lk (fun l a w=>∃n,D n l a w) (fun l a w=>Classical.choose (hmin l a w)) ?_ ?_
 ·refine MI hE hm hkeep c s _ _ z _ a w hs h (fun e s' a' w' hk hs' hz=>?_) fun l b s1 a' w' hk hs' hz h1 h2=>?_
  ·cases e with
   |goto l=>cases hz
   |normal=>exact hQ _ _ _ _ hk hs' hz
   |exit id=>exact hQ _ _ _ _ hk hs' hz
   |ret=>exact hQ _ _ _ _ hk hs' hz
   |panic ch=>exact hQ _ _ _ _ hk hs' hz
   |outgrown=>exact hQ _ _ _ _ hk hs' hz
  ·rw [h2]at hz
   generalize Uh s1 E.lp (By c)=p at hz;obtain⟨L,Rh⟩:=p;simp only at hz;cases hok:HJ (AN b) L Rh s1 with
   |false=>rw [hok]at hz;cases hz
   |true=>
   rw [hok]at hz;simp only [cond_true]at hz;split at hz
   case h_2=>cases hz
   rename_i cs hcs;split at hz
   case h_2=>cases hz
   rename_i x hx;have hml:C.m<=s1.r.length:=by
    obtain⟨hd0,hdd0,D0,ρ0,F0,hcr0⟩:=id hs';have:=hcr0.ml;simpa [St.den]using this
   cases hl:Ah (fun y:Nat×(Bl (cs.map (·.t))).T=>IJ E c (AN b) L Rh s1 (cs.map (·.t)) K y.1 y.2 (Bq c)) (l,x)with
   |none=>rw [hl]at hz;cases hz
   |some o=>
   rw [hl]at hz;cases o with
   |next=>cases hz
   |brk=>cases hz
   |ret r=>
   cases hz;obtain⟨n,hn⟩:=Cz.1 hl;have hD:D n l a' w':=by
    refine⟨l,b,L,Rh,s1,_,x,h1,h2,hok,hk,hml,hn,?_⟩;rw [QD _ _ _ hx];exact JL hs' hcs hkeep hml (fun _ _ _ _=>rfl) (fun _ _ _=>⟨rfl,rfl⟩) fun _ _ _ _=>rfl
   obtain⟨b2,hb2,hw2⟩:=claim n l a' w' hD;rw [h2]at hb2;cases hb2;refine _root_.Go.wp_mono hw2 fun e a w hq=>?_
   cases e with
   |goto l2=>obtain⟨n2,h1,h2⟩:=hq;exact⟨hlab _ _ _ _ h2,n2,h2⟩
   |normal=>exact hq
   |exit id=>exact hq
   |ret=>exact hq
   |panic ch=>exact hq
   |outgrown=>exact hq
 ·intro l r a w hf hJ
  obtain⟨hD,_⟩:=Classical.choose_spec (hmin l a w) hJ;obtain⟨b,hb,hw⟩:=claim _ l a w hD;obtain⟨r',hr',hrw⟩:=I0 c b l hch hb;rw [hf]at hr';cases hr';refine hrw _ _ _ (_root_.Go.wp_mono hw fun e a' w' hq=>?_)
  cases e with
  |goto l2=>
   obtain⟨n2,h1,h2⟩:=hq;refine⟨hlab _ _ _ _ h2,⟨n2,h2⟩,?_⟩;have:=(Classical.choose_spec (hmin l2 a' w') ⟨n2,h2⟩).2 n2 h2;show Classical.choose (hmin l2 a' w')<Classical.choose (hmin l a w);omega
  |normal=>exact hq
  |exit id=>exact hq
  |ret=>exact hq
  |panic ch=>exact hq
  |outgrown=>exact hq
theorem Px{P:Program}{E:A7}{C:Ctx}(hE:EOK P E.toEnv)(hm:P.follows .mixedOrders=true)(hkeep:C.m<=E.h.keep)(c:Code){R:Type}(s:St)(K:Exit->St->Option R)(z:R)(Q:Exit->Act->World->Prop)(a:Act)(w:World)(hs:A0 C E.h.n s.den a w)(h:Zs E c s K=some z)
  (hQ: ∀e s' a' w',Kp (Aq (AN c)) s s'->A0 C E.h.n s'.den a' w'->K e s'=some z->Q e a' w'):c.wp P Q a w:=
 MJ hE hm hkeep (VD hE hm hkeep) c s K z Q a w hs h hQ
end Go.Ve


namespace Go.Ve
def divP:A1->A1->Bool
 |(_,k)::p,(_,l)::q=>!Nat.beq k l||divP p q
 |_,_=>false
theorem Qn{x:V}: ∀ {p q:A1} (_:divP p q=true) (v:V),sub q (upd p v x)=sub q v/\Ba p q=false
 |(i,k)::p,(j,l)::q,h0,v=>by
  have h:(!Nat.beq k l||divP p q)=true:=h0;clear h0;by_cases hkl:k=l
  ·subst hkl
   rw [Nat.beq_refl,Bool.not_true,Bool.false_or]at h;refine⟨?_,?_⟩
   ·cases v with
    |nd s o sz n f=>
     show sub q (if j=i/\k=k then upd p (f i k) x else f j k)=sub q (f j k)
     by_cases hji:j=i
     ·subst hji
      rw [if_pos ⟨rfl,rfl⟩];exact(Qn h (f j k)).1
     ·rw [if_neg (fun e=>hji e.1)]
    |_=>rfl
   ·show(i==j&&k==k&&Ba p q)=false
    rw [(Qn (x:=x) h v).2,Bool.and_false]
  ·refine⟨?_,?_⟩
   ·cases v with
    |nd s o sz n f=>
     show sub q (if j=i/\l=k then upd p (f i k) x else f j l)=sub q (f j l)
     rw [if_neg (fun e=>hkl e.2.symm)]
    |_=>rfl
   ·show(i==j&&k==l&&Ba p q)=false
    have:(k==l)=false:=by simpa using hkl
    rw [this,Bool.and_false,Bool.false_and]
 | [],_,h,_=>by cases h
 |_::_,[],h,_=>by cases h
def CG:List Cl->List (Nat×A1)
 | []=>[]
 | .rf id p::l=>(id,p)::CG l
 |_::l=>CG l
def Qm(a b:Nat×A1):Bool:=!Nat.beq a.1 b.1||divP a.2 b.2
def K3:List (Nat×A1)->Bool
 | []=>true
 |a::l=>l.all (Qm a)&&K3 l
def Zw(r:List Ae):Cl->Option Cl
 | .c t d x=>some (.c t d x)
 | .nil=>some .nil
 | .nilp=>some .nilp
 | .rf id p=>match Ag r id p with
  | .arr _ t d xs=>some (.c (.sl t) (d+1) xs)
  |_=>none
 |_=>none
def MM(r:List Ae):List Cl->Option (List Cl)
 | []=>some []
 |y::l=>match Zw r y with
  |some z=>match MM r l with
   |some m=>some (z::m)
   |none=>none
  |none=>none
theorem P5{id:Nat}{q:A1}: ∀ {l:List Cl},Cl.rf id q∈l->(id,q)∈CG l
 | [],h=>by cases h
 |z::l,h=>by
  rcases List.mem_cons.1 h with h|h
  ·subst h;exact List.mem_cons_self ..
  ·have:=P5 h
   cases z<;>first|exact this|exact mCM _ this
theorem Jc{r:List Ae}{y:Cl}: ∀ {l l1:List Cl},MM r l=some l1->y∈l->∃z,Zw r y=some z
 | [],_,_,h=>by cases h
 |z::l,l1,hl,h=>by
  unfold MM at hl;split at hl
  case h_2=>cases hl
  rename_i z1 hz1;split at hl
  case h_2=>cases hl
  rename_i l2 hl2;rcases List.mem_cons.1 h with h|h
  ·subst h;exact⟨z1,hz1⟩
  ·exact Jc hl2 h
theorem Zr{m id:Nat}{p:A1}{n:Nat}{vs σ:List V}:tkL (m+1) (V.rs id p 0 n::vs) σ=(match sub p (σ.getD id .dead)with
   | .nd true true sz n' f=>if 0=0/\n=n' then .nd true true sz n' f::tkL m (vs.map fun v=>A9 σ.length [] (rrV id p σ.length v)) (σ.set id (upd p (σ.getD id .dead) .dead)++ [.dead])else .dead::tkL m vs σ
   |_=>.dead::tkL m vs σ):=rfl
theorem tkL_v(r:List Ae): ∀ (l l':List Cl) (m:Nat) (σ:List V),l.length<=m->l.all Cl.plain=true->MM r l=some l'->K3 (CG l)=true->
  (∀id p,(id,p)∈CG l->sub p (σ.getD id .dead)=(Ag r id p).v/\id<σ.length)->tkL m (l.map (Cl.v r)) σ=l'.map Cl.v0:=by
 intro l
 induction l with
 |nil=>intro l' m σ _ _ h _ _;cases h;cases m<;>rfl
 |cons y l ih=>
  intro l' m σ hm hp h hd hσ;cases m with
  |zero=>simp at hm
  |succ m=>
   simp only [List.length_cons]at hm;rw [List.all_cons,bAE]at hp;unfold MM at h;split at h
   case h_2=>cases h
   rename_i z hz;split at h
   case h_2=>cases h
   rename_i l1 hl1;cases h
   have plainly: ∀v:V,y.v r=v->v=z.v0->CG (y::l)=CG l->(∀vs,tkL (m+1) (v::vs) σ=v::tkL m vs σ)->tkL (m+1) ((y::l).map (Cl.v r)) σ=(z::l1).map Cl.v0:=by
    intro v hv hvz hrf htk;rw [List.map_cons,List.map_cons,hv,htk,<-hvz]
    congr 1
    exact ih l1 m σ (by omega) hp.2 hl1 (by rw [hrf]at hd;exact hd) fun id p hm=>hσ id p (by rw [hrf];exact hm)
   cases y with
   |c t d x=>
    cases hz;cases t<;>first|exact plainly _ rfl rfl rfl (fun _=>rfl)|cases hp.1
   |nil=>cases hz;exact plainly _ rfl rfl rfl fun _=>rfl
   |nilp=>cases hz;exact plainly _ rfl rfl rfl fun _=>rfl
   |nilf=>cases hz
   |rf id p=>
    unfold Zw at hz;simp only at hz;split at hz
    case h_2=>cases hz
    rename_i ro t d xs hn;cases hz;have hd':((CG l).all (Qm (id,p))&&K3 (CG l))=true:=hd;rw [bAE]at hd';obtain⟨hs,hid⟩:=hσ id p (List.mem_cons_self ..);rw [hn]at hs;have hs:sub p (σ.getD id .dead)= .nd true true t.w xs.length fun i k=>(tyV t d (xs.getD i t.dflt)).getD k .dead:=hs
    rw [List.map_cons];show tkL (m+1) (V.rs id p 0 (Ag r id p).len::l.map (Cl.v r)) σ=_;rw [hn];show tkL (m+1) (V.rs id p 0 xs.length::l.map (Cl.v r)) σ=_
    have e:tkL (m+1) (V.rs id p 0 xs.length::l.map (Cl.v r)) σ=(V.nd true true t.w xs.length fun i k=>(tyV t d (xs.getD i t.dflt)).getD k .dead)::
      tkL m ((l.map (Cl.v r)).map fun v=>A9 σ.length [] (rrV id p σ.length v)) (σ.set id (upd p (σ.getD id .dead) .dead)++ [.dead]):=by
     rw [Zr,hs];exact if_pos ⟨rfl,rfl⟩
    rw [e,List.map_cons]
    congr 1
    -- the rest is as it was
    have hsame:(l.map (Cl.v r)).map (fun v=>A9 σ.length [] (rrV id p σ.length v))=l.map (Cl.v r):=by
     rw [List.map_map];refine List.map_congr_left fun y hy=>?_
     show A9 σ.length [] (rrV id p σ.length (y.v r))=y.v r;cases y with
     |c t d x=>cases t<;>first|rfl|exact(congrArg (A9 σ.length []) ((Dl id p σ.length).osl (d:=d))).trans ((Bv σ.length []).osl (d:=d))|exact(congrArg (A9 σ.length []) ((Dl id p σ.length).clo (d:=d))).trans ((Bv σ.length []).clo (d:=d))
     |dead=>rfl
     |nil=>rfl
     |nilp=>rfl
     |nilf=>rfl
     |rf id' q=>
      have hmem:(id',q)∈CG l:=P5 hy;have hdv:=aET.1 hd'.1 _ hmem;have hlt:=(hσ id' q (mCM _ hmem)).2
      have hn1: ¬ (id'=id/\Ba p q=true):=by
       rintro ⟨h1,h2⟩
       unfold Qm at hdv;simp only [h1,Nat.beq_refl,Bool.not_true,Bool.false_or]at hdv;rw [(Qn (x:=.dead) hdv .dead).2]at h2;cases h2
      show A9 σ.length [] (rrV id p σ.length (.rs id' q 0 (Ag r id' q).len))=_;simp only [rrV,if_neg hn1,A9];rw [if_neg (by rintro ⟨h,_⟩;omega)]
      rfl
     |rs id' q a b=>obtain⟨z,hz⟩:=Jc hl1 hy;cases hz
     |rp id' q a b=>obtain⟨z,hz⟩:=Jc hl1 hy;cases hz
    rw [hsame];refine ih l1 m _ (by omega) hp.2 hl1 hd'.2 fun id' q hmem=>?_
    obtain⟨h1,h2⟩:=hσ id' q (mCM _ hmem);have hdv:=aET.1 hd'.1 _ hmem;refine⟨?_,by simp;omega⟩
    have hlt:id'<(σ.set id (upd p (σ.getD id .dead) .dead)).length:=by simpa using h2
    rw [AK hlt];by_cases hii:id=id'
    ·subst hii
     rw [Ar hid,<-h1];unfold Qm at hdv;simp only [Nat.beq_refl,Bool.not_true,Bool.false_or]at hdv;exact(Qn hdv _).1
    ·rw [Ao hii,h1]
   |dead=>cases hz
   |rs=>cases hz
   |rp=>cases hz
def Zv(r:List Ae):List Cl->Option (List Cl)
 | [.rp id [] 0 0]=>match r.getD id .dead with
  | .obj false l=>match Iw l with
   |some ⟨t,x⟩=>bif l.any Cl.own then none else some [.c (.ptr t) 1 x]
   |none=>none
  |_=>none
 |l=>MM r l
theorem Zu{s:St}{l m:List Cl}(hm:Zv s.r l=some m)(h3:l.all Cl.plain=true)(hd:K3 (CG l)=true):tkL (l.map (Cl.v s.r)).length (l.map (Cl.v s.r)) s.den.σ=m.map Cl.v0:=by
 unfold Zv at hm;split at hm
 ·rename_i id
  split at hm
  case h_2=>cases hm
  rename_i l hr;split at hm
  case h_2=>cases hm
  rename_i t x hf;cases hb:l.any Cl.own with
  |true=>rw [hb]at hm;cases hm
  |false=>
  rw [hb]at hm;cases hm;have e1:=Ds _ _ hf
  have e2:(l.map Cl.v0).map frz=l.map Cl.v0:=by
   rw [List.map_map];refine List.map_congr_left fun c hc=>Qg ?_
   have:=List.any_eq_false.1 hb c hc;simpa using this
  have e3:tyV t 0 x=l.map Cl.v0:=e1.trans e2
  have hσ:s.den.σ.getD id .dead=Bk true (l.map Cl.v0):=by
   show(s.r.map Ae.v).getD id .dead=_;rw [AI,hr];rfl
  show(match sub [] (s.den.σ.getD id .dead)with
   | .nd false true sz n f=>if 0=0/\0=0 then V.nd false true sz n f:: []else [.dead]
   |_=>[.dead])= [Bk (decide (0<1)) (tyV t 0 x)]
  rw [hσ,e3];rfl
 ·have hlt: ∀id p,(id,p)∈CG l->Ag s.r id p≠.dead:=by
   intro id p
   have key: ∀ (l l':List Cl),MM s.r l=some l'->(id,p)∈CG l->Ag s.r id p≠.dead:=by
    intro l
    induction l with
    |nil=>intro l' _ h;cases h
    |cons y l ih=>
     intro l' hl hm;unfold MM at hl;split at hl
     case h_2=>cases hl
     rename_i z1 hz1;split at hl
     case h_2=>cases hl
     rename_i l2 hl2;cases y with
     |rf id' q=>
      rcases List.mem_cons.1 hm with h|h
      ·cases h
       intro hx
       have hz1:(match Ag s.r id p with
        | .arr _ t d xs=>some (Cl.c (.sl t) (d+1) xs)
        |_=>none)=some z1:=hz1
       rw [hx]at hz1;cases hz1
      ·exact ih l2 hl2 h
     |_=>exact ih l2 hl2 hm
   exact key _ _ hm
  refine tkL_v s.r l m (l.map (Cl.v s.r)).length s.den.σ (by simp) h3 hm hd fun id p hmem=>?_
  have hne:=hlt id p hmem;refine⟨AZ hne,?_⟩;show id<(s.r.map Ae.v).length;rw [List.length_map];rcases Nat.lt_or_ge id s.r.length with h|h
  ·exact h
  ·exfalso
   apply hne;unfold Ag;rw [gDE,List.getElem?_eq_none h];exact CN p
def retV1(Θ:Tab)(s:St):ResultVar->Option Sl
 | .tmp t=>some (s.t t)
 | .cell a t=>match Vm s (Θ.look t) (s.ev (.tmp a))with
  |some (.ok y)=>some y
  |_=>none
def XQ(Θ:Tab)(s:St):List ResultVar->Option (List Sl)
 | []=>some []
 |v::l=>match retV1 Θ s v with
  |some y=>match XQ Θ s l with
   |some m=>some (y::m)
   |none=>none
  |none=>none
def cellsOf:List Sl->Option (List (Bool×List Cl))
 | []=>some []
 |y::l=>match y with
  | .one c=>match(Sl.one c).cells,cellsOf l with
   |some m,some n=>some ((false,m)::n)
   |_,_=>none
  | .agg c=>match(Sl.agg c).cells,cellsOf l with
   |some m,some n=>some ((true,m)::n)
   |_,_=>none
  |_=>none
def OM(t:Ty)(d:Nat)(l:List Cl):Option t.T:=Ir t d (l.map (fit d))
theorem Jy{t:Ty}{d:Nat}{l:List Cl}{x:t.T}(h:OM t d l=some x)(r:List Ae):CQ (l.map (Cl.v r)) (tyV t d x)/\l.map (Cl.v r)=l.map Cl.v0:=by
 have:=C7 h r
 have e1:(l.map (fit d)).map (Cl.v r)=l.map (Cl.v r):=by
  rw [List.map_map];exact List.map_congr_left fun c _=>(Aau d r c).1
 have e2:(l.map (fit d)).map Cl.v0=l.map Cl.v0:=by
  rw [List.map_map];exact List.map_congr_left fun c _=>(Aau d r c).2
 rw [e1,e2]at this;exact this
def KI(b:Bool)(p:Bool×Nat×Ty)(l:List Cl):Option p.2.2.T:=bif b|| !isP p then OM p.2.2 p.2.1 l else match l with
 | [.nilp]=>some p.2.2.dflt
 |_=>none
def PX(b:Bool):(rs:List (Bool×Nat×Ty))->List (Bool×List Cl)->List Cl->Option (RT rs).T
 | [],[],[]=>some ()
 | [p],[q],l=>bif p.1==q.1&&(p.1||p.2.2.one)&&Nat.beq l.length q.2.length then KI b p l else none
 |p::p'::rs,q::q'::qs,l=>bif p.1==q.1&&(p.1||p.2.2.one)&&Nat.ble q.2.length l.length then(match KI b p (l.take q.2.length)with
  |some x=>match PX b (p'::rs) (q'::qs) (l.drop q.2.length)with
   |some z=>some (x,z)
   |none=>none
  |none=>none)else none
 |_,_,_=>none
def AaK(b:Bool)(Θ:Tab)(rv:List ResultVar)(rs:List (Bool×Nat×Ty))(s:St):Option (RT rs).T:=match XQ Θ s rv with
 |some ys=>match cellsOf ys with
  |some ls=>match Zv s.r (ls.flatMap (·.2))with
   |some m=>bif K3 (CG (ls.flatMap (·.2)))then PX b rs ls m else none
   |none=>none
  |none=>none
 |none=>none
def retK(Θ:Tab)(rv:List ResultVar)(rs:List (Bool×Nat×Ty)):Exit->St->Option (RT rs).T
 | .normal,s=>AaK true Θ rv rs s
 | .ret,s=>AaK true Θ rv rs s
 |_,_=>none
def pS(b:Bool)(t:Ty)(x:t.T):Sl:=bif b then .agg (Ax t 0 x)else .one (.c t 0 x)
def Xp:(l:List (Bool×Ty))->(PT l).T->List Sl
 | [],_=>[]
 | [p],x=>[pS p.1 p.2 x]
 |p::q::l,x=>pS p.1 p.2 x.1::Xp (q::l) x.2
def Oz(l:List (Bool×Ty))(x:(PT l).T):St:=⟨fun i=>(Xp l x).getD i (.one .dead),[]⟩
noncomputable def tfun(E:A7)(body:Code)(rv:List ResultVar)(S:Sig)(x:(PT S.ps).T):Option (RT S.rs).T:=Zs E body (Oz S.ps x) (retK E.Θ rv S.rs)
theorem N6{s:St}: ∀ (ys:List Sl) (ls:List (Bool×List Cl)),cellsOf ys=some ls->(ys.map (Sl.v s.r)).all Bz=true/\(ys.map (Sl.v s.r)).flatMap Go.Ve.cellsV=(ls.flatMap (·.2)).map (Cl.v s.r)/\(ls.flatMap (·.2)).all Cl.plain=true/\ls.length=ys.length
 | [],ls,h=>by cases h;exact⟨rfl,rfl,rfl,rfl⟩
 |y::ys,ls,h=>by
  have go: ∀ (b:Bool) (m:List Cl) (n:List (Bool×List Cl)),y.cells=some m->cellsOf ys=some n->ls=(b,m)::n->((y::ys).map (Sl.v s.r)).all Bz=true/\((y::ys).map (Sl.v s.r)).flatMap Go.Ve.cellsV=(ls.flatMap (·.2)).map (Cl.v s.r)/\(ls.flatMap (·.2)).all Cl.plain=true/\ls.length=(y::ys).length:=by
   intro b m n hm hn e;subst e;obtain⟨h1,h2,h3⟩:=CP (r:=s.r) hm;obtain⟨g1,g2,g3,g4⟩:=N6 ys n hn;refine⟨by rw [List.map_cons,List.all_cons,h1,g1];rfl,?_,?_,by simp [g4]⟩
   ·rw [List.map_cons,List.flatMap_cons,List.flatMap_cons,List.map_append,h2,g2]
   ·rw [List.flatMap_cons,List.all_append,h3,g3];rfl
  unfold cellsOf at h;split at h
  ·split at h
   ·rename_i m n hm hn
    cases h;exact go _ _ _ hm hn rfl
   ·cases h
  ·split at h
   ·rename_i m n hm hn
    cases h;exact go _ _ _ hm hn rfl
   ·cases h
  ·cases h
theorem DS{s:St}: ∀ (ys:List Sl) (ls:List (Bool×List Cl)),cellsOf ys=some ls->∀k,k<ls.length->((ls.getD k (false,[])).1=true/\(∃l,(ys.getD k (.one .dead)).v s.r=Ai l/\l.length=(ls.getD k (false,[])).2.length))\/((ls.getD k (false,[])).1=false/\(∀t n f,(ys.getD k (.one .dead)).v s.r≠.many t n f)/\(ls.getD k (false,[])).2.length=1)
 | [],ls,h,k,hk=>by cases h;simp at hk
 |y::ys,ls,h,k,hk=>by
  unfold cellsOf at h;split at h
  ·rename_i c
   split at h
   ·rename_i m n hm hn
    cases h;cases k with
    |zero=>
     right;refine⟨rfl,?_,?_⟩
     ·have hm:(bif c.plain then some [c]else none)=some m:=hm
      cases hb:c.plain with
      |false=>rw [hb]at hm;cases hm
      |true=>
       show ∀t n f,c.v s.r≠.many t n f;cases c with
       |c t d x=>cases t<;>first|(cases hb;done)|(intro _ _ _ h;cases h)
       |_=>intro _ _ _ h;cases h
     ·have hm:(bif c.plain then some [c]else none)=some m:=hm
      cases hb:c.plain with
      |false=>rw [hb]at hm;cases hm
      |true=>rw [hb]at hm;cases hm;rfl
    |succ k=>exact DS ys n hn k (by simpa using hk)
   ·cases h
  ·rename_i c
   split at h
   ·rename_i m n hm hn
    cases h;cases k with
    |zero=>
     left;refine⟨rfl,c.map (Cl.v s.r),rfl,?_⟩;have hm:(bif c.all Cl.plain then some c else none)=some m:=hm;cases hb:c.all Cl.plain with
     |false=>rw [hb]at hm;cases hm
     |true=>rw [hb]at hm;cases hm;simp
    |succ k=>exact DS ys n hn k (by simpa using hk)
   ·cases h
  ·cases h
theorem X2(b:Bool): ∀ (rs:List (Bool×Nat×Ty)) (ls:List (Bool×List Cl)) (l:List Cl) (z:(RT rs).T) (vl:List V),PX b rs ls l=some z->vl.length=ls.length->
  (∀k,k<ls.length->((ls.getD k (false,[])).1=true/\(∃m,vl.getD k .dead=Ai m/\m.length=(ls.getD k (false,[])).2.length))\/((ls.getD k (false,[])).1=false/\(∀t n f,vl.getD k .dead≠.many t n f)/\(ls.getD k (false,[])).2.length=1))->
  CQ (Bh vl (l.map Cl.v0)) (Q3 b rs z):=by
 -- one result
 have one: ∀ (p:Bool×Nat×Ty) (q:Bool×List Cl) (l:List Cl) (x:p.2.2.T) (v:V) (vs:List V) (rest:List V),p.1=q.1->(p.1=true\/p.2.2.one=true)->l.length=q.2.length->KI b p l=some x->
   ((q.1=true/\(∃m,v=Ai m/\m.length=q.2.length))\/(q.1=false/\(∀t n f,v≠.many t n f)/\q.2.length=1))->∃v',Bh (v::vs) (l.map Cl.v0++rest)=v'::Bh vs rest/\Sub v' (Xi b p x):=by
  intro p q l x v vs rest h1 h2 hl hx hk;unfold KI at hx;unfold Xi;cases hbp:b|| !isP p with
  |false=>
   rw [hbp]at hx;simp only [cond_false]at hx;split at hx
   case h_2=>cases hx
   have hp1:p.1=false:=by
    rw [Bool.or_eq_false_iff,Bool.not_eq_false']at hbp;have:=hbp.2;unfold isP at this;rw [bAE,Bool.not_eq_true']at this;exact this.1
   rcases hk with⟨hq,_⟩|⟨_,hv,_⟩
   ·rw [<-h1,hp1]at hq;cases hq
   ·refine⟨.c (.pointer none),?_,Sub.refl _⟩
    show Bh (v::vs) (.c (.pointer none)::rest)=_;cases v with
    |many t n f=>exact absurd rfl (hv _ _ _)
    |_=>rfl
  |true=>
  rw [hbp]at hx;simp only [cond_true]at hx⊢;obtain⟨g1,g2⟩:=Jy hx [];rw [g2]at g1;rcases hk with⟨hq,m,rfl,hm⟩|⟨hq,hv,hq1⟩
  ·refine⟨Ai (l.map Cl.v0),?_,?_⟩
   ·show Ai ((l.map Cl.v0++rest).take m.length)::Bh vs ((l.map Cl.v0++rest).drop m.length)=_
    have e:(l.map Cl.v0).length=m.length:=by rw [List.length_map,hl,hm]
    rw [<-e,List.take_left,List.drop_left]
   ·rw [h1,hq];exact g1.mk
  ·have hp:p.1=false:=by rw [h1,hq]
   have ho:p.2.2.one=true:=by rcases h2 with h|h;rw [hp]at h;cases h;exact h
   rw [BR ho]at g1
   match l,hl with
   | [y],_=>
    refine⟨y.v0,?_,?_⟩
    ·show Bh (v::vs) (y.v0::rest)=_
     cases v with
     |many t n f=>exact absurd rfl (hv _ _ _)
     |_=>rfl
    ·rw [hp];exact g1.1
   | [],hl=>rw [hq1]at hl;cases hl
   |_::_::_,hl=>rw [hq1]at hl;simp at hl
 intro rs
 induction rs with
 |nil=>
  intro ls l z vl h hl hk;cases ls with
  |nil=>cases l with
   |nil=>cases vl with
    |nil=>trivial
    |cons=>simp at hl
   |cons=>cases h
  |cons=>cases h
 |cons p rs ih=>
  intro ls l z vl h hl hk;cases rs with
  |nil=>
   cases ls with
   |nil=>cases h
   |cons q ls=>cases ls with
    |cons=>cases h
    |nil=>
     have h:(bif p.1==q.1&&(p.1||p.2.2.one)&&Nat.beq l.length q.2.length then KI b p l else none)=some z:=h;cases hb:(p.1==q.1&&(p.1||p.2.2.one)&&Nat.beq l.length q.2.length)with
     |false=>rw [hb]at h;cases h
     |true=>
      rw [hb]at h;simp only [bAE,beq_iff_eq,Bool.or_eq_true]at hb;cases vl with
      |nil=>simp at hl
      |cons v vl=>cases vl with
       |cons=>simp at hl
       |nil=>
        obtain⟨v',e,hs⟩:=one p q l z v [] [] hb.1.1 hb.1.2 (bqE hb.2) h (hk 0 (by simp))
        rw [List.append_nil]at e;rw [e];exact⟨hs,trivial⟩
  |cons p' rs=>
   cases ls with
   |nil=>cases h
   |cons q ls=>cases ls with
    |nil=>cases h
    |cons q' ls=>
     have h:(bif p.1==q.1&&(p.1||p.2.2.one)&&Nat.ble q.2.length l.length then(match KI b p (l.take q.2.length)with
      |some x=>match PX b (p'::rs) (q'::ls) (l.drop q.2.length)with
       |some z=>some (x,z)
       |none=>none
      |none=>none)else none:Option (RT (p::p'::rs)).T)=some z:=h
     cases hb:(p.1==q.1&&(p.1||p.2.2.one)&&Nat.ble q.2.length l.length)with
     |false=>rw [hb]at h;cases h
     |true=>
      rw [hb]at h;simp only [bAE,beq_iff_eq,Bool.or_eq_true]at hb;simp only [cond_true]at h;split at h
      case h_2=>cases h
      rename_i x hx;split at h
      case h_2=>cases h
      rename_i z2 hz2;cases h;cases vl with
      |nil=>simp at hl
      |cons v vl=>
       have hlen:(l.take q.2.length).length=q.2.length:=by
        have:=blE hb.2;rw [List.length_take];omega
       obtain⟨v',e,hs⟩:=one p q (l.take q.2.length) x v vl ((l.drop q.2.length).map Cl.v0) hb.1.1 hb.1.2 hlen hx (hk 0 (by simp))
       rw [<-List.map_append,List.take_append_drop]at e;rw [e];refine⟨hs,ih (q'::ls) (l.drop q.2.length) z2 vl hz2 (by simpa using hl) fun k hk'=>?_⟩
       have:=hk (k+1) (by simpa using hk')
       simpa using this
theorem VH{P:Program}{Θ:Tab}(hΘ:Θ.OK P){s:St}{K:List V->Prop}: ∀ (rv:List ResultVar) (ys:List Sl) (acc:List V),XQ Θ s rv=some ys->K (acc++ys.map (Sl.v s.r))->Q4 P s.den rv acc K
 | [],ys,acc,h,hK=>by cases h;show K acc;simpa using hK
 |v::rv,ys,acc,h,hK=>by
  unfold XQ at h;split at h
  case h_2=>cases h
  rename_i y hy;split at h
  case h_2=>cases h
  rename_i m hm;cases h;have hrest:Q4 P s.den rv (acc++ [y.v s.r]) K:=VH hΘ rv m _ hm (by simpa using hK)
  cases v with
  |tmp t=>
   cases hy;exact hrest
  |cell a t=>
   unfold retV1 at hy;simp only at hy;split at hy
   ·rename_i y' hl
    cases hy;show HB (tyI P t) s.den.σ (s.den.t a) fun v=>Q4 P s.den rv (acc++ [v]) K
    exact KB (PA hΘ hl trivial) fun r0 hr=>by rw [hr];exact hrest
   ·cases hy
theorem PG{P:Program}{Θ:Tab}(hΘ:Θ.OK P){s:St}{rv:List ResultVar}{rs:List (Bool×Nat×Ty)}{b:Bool}{z:(RT rs).T}(h:AaK b Θ rv rs s=some z):Q4 P s.den rv [] (Xc s.den.σ (Js b rs z)):=by
 unfold AaK at h;split at h
 case h_2=>cases h
 rename_i ys hys;split at h
 case h_2=>cases h
 rename_i ls hls;split at h
 case h_2=>cases h
 rename_i m hm;cases hd:K3 (CG (ls.flatMap (·.2)))with
 |false=>rw [hd]at h;cases h
 |true=>
  rw [hd]at h;simp only [cond_true]at h;refine VH hΘ rv ys [] hys ?_;rw [List.nil_append];obtain⟨h1,h2,h3,h4⟩:=N6 (s:=s) ys ls hls;refine⟨h1,?_⟩;rw [h2];have htk:=Zu hm h3 hd
  ·rw [htk]
   have hsub:=X2 b rs ls m z (ys.map (Sl.v s.r)) h (by rw [List.length_map,h4]) fun k hk=>?_
   ·-- KH
    have hp: ∀ {a b:List V},CQ a b->Sub (LP a) (LP b):=by
     intro a b hab
     match a,b,hab with
     | [],[],_=>exact Sub.refl _
     | [x],[y],hab=>exact hab.1
     |x::x'::a,y::y'::b,hab=>
      show Sub (Df _) (Df _);unfold Df;rw [hab.len];exact⟨_,rfl,fun k _=>hab.getD k⟩
     | [],_::_,hab=>exact hab.elim
     |_::_,[],hab=>exact hab.elim
     | [_],_::_::_,hab=>exact hab.2.elim
     |_::_::_,[_],hab=>exact hab.2.elim
    exact hp hsub
   ·have:=DS (s:=s) ys ls hls k hk
    have e:(ys.map (Sl.v s.r)).getD k .dead=(ys.getD k (.one .dead)).v s.r:=AB (f:=Sl.v s.r) (a:=.one .dead) rfl ys k;rw [e];exact this
theorem pS_v(b:Bool)(t:Ty)(x:t.T):(pS b t x).v []=vOf b t 0 x:=by
 unfold pS vOf;cases b with
 |true=>show Ai ((Ax t 0 x).map (Cl.v []))=_;rw [Cl.v_c];rfl
 |false=>rfl
theorem W0: ∀ (l:List (Bool×Ty)) (x:(PT l).T),(Xp l x).map (Sl.v [])=CB l x
 | [],x=>rfl
 | [p],x=>congrArg (fun v=>[v]) (pS_v p.1 p.2 x)
 |p::q::l,x=>by
  show(pS p.1 p.2 x.1).v []::(Xp (q::l) x.2).map (Sl.v [])=vOf p.1 p.2 0 x.1::CB (q::l) x.2;rw [W0 (q::l) x.2,pS_v]
theorem DU: ∀ (l:List (Bool×Ty)) (x:(PT l).T),(CB l x).length=l.length
 | [],_=>rfl
 | [_],_=>rfl
 |_::q::l,x=>by show(CB (q::l) x.2).length+1=_;rw [DU];rfl
theorem YF{P:Program}{E:A7}{f:FuncId}{fn:Func}{body:Code}{S:Sig}(hE:EOK P E.toEnv)(hm:P.follows .mixedOrders=true)(hf:P.funcs[f]? =some fn)(hb:fn.body=some body)(hn:max S.ps.length fn.ntmps=E.h.n):
  FT P f S (tfun E body fn.results.toList S):=by
 intro x y hxy;refine FC_of (h:=E.h) hf hb (by rw [DU];exact hn) fun _ C a w Q hCm hs hQ=>?_
 have e:(Oz S.ps x).den=⟨fun i=>(CB S.ps x).getD i .dead,[]⟩:=by
  show Ms.mk (fun i=>((Xp S.ps x).getD i (.one .dead)).v []) []=_
  congr 1
  funext i
  rw [<-W0 S.ps x,AB (f:=Sl.v []) (a:=.one .dead) rfl]
 rw [<-e]at hs;rw [<-Hf]at hQ;refine Px hE hm (by rw [hCm];exact Nat.zero_le _) body (Oz S.ps x) _ y Q a w hs hxy fun e s' a' w' _ hs' hz=>?_
 cases e with
 |normal=>exact hQ .normal s'.den a' w' (PG hE.Θ hz) hs'
 |ret=>exact hQ .ret s'.den a' w' (PG hE.Θ hz) hs'
 |exit id=>cases hz
 |goto l=>cases hz
 |panic ch=>cases hz
 |outgrown=>cases hz
end Go.Ve


namespace Go.Ve
noncomputable def tfn(E:A7)(fn:Func)(S:Sig)(x:(PT S.ps).T):Option (RT S.rs).T:=match fn.body with
 |some b=>tfun E b fn.results.toList S x
 |none=>none
theorem AT{P:Program}{E:A7}{f:FuncId}{fn:Func}{S:Sig}(hΘ:Tab.OK P E.Θ)(hΓ:Mw P E.Γ)(hW: ∀e∈E.W,e.OK P)(hN: ∀e∈E.N,e.OK P)(hm:P.follows .mixedOrders=true)(hf:P.funcs[f]? =some fn)(hn:max S.ps.length fn.ntmps=E.h.n){g:(PT S.ps).T->Option (RT S.rs).T}(hg:tfn E fn S=g)(hU: ∀e∈E.U,e.OK P:=by exact Dt):FT P f S g:=by
 subst hg;intro x y hxy;unfold tfn at hxy;cases hb:fn.body with
 |none=>rw [hb]at hxy;cases hxy
 |some b=>
  rw [hb]at hxy;exact YF ⟨hΘ,hΓ,hW,hN,hU⟩ hm hf hb hn x y hxy
theorem Am{P:Program}: ∀e∈([]:List EnN),e.OK P:=fun _ h=>by cases h
theorem Ak{P:Program}:Mw P []:=fun _ h=>by cases h
theorem Ab{P:Program}{e:En}{l:List En}(h1:Af P e.f=true)(h2:FT P e.f e.S e.g)(hl:Mw P l):Mw P (e::l):=by
 intro x hx;rcases List.mem_cons.1 hx with rfl|hx
 ·exact⟨h1,h2⟩
 ·exact hl x hx
end Go.Ve

