/- The typed machine over code: what a body computes, as a function; that it does. -/
import Derived.Test.YtbbhfpbalccohaaGreatTn
namespace Go.Ve
inductive LO(X R:Type) where
 |next (x:X)
 |brk (id:Nat) (x:X)
 |ret (r:R)
inductive Cc{X R:Type}(f:X->Option (LO X R)):X->LO X R->Nat->Prop where
 |brk {x y:X} {id:Nat}:f x=some (.brk id y)->Cc f x (.brk id y) 0
 |ret {x:X} {r:R}:f x=some (.ret r)->Cc f x (.ret r) 0
 |step {x y:X} {o:LO X R} {n:Nat}:f x=some (.next y)->Cc f y o n->Cc f x o (n+1)
noncomputable def Ag{X R:Type}(f:X->Option (LO X R))(x:X):Option (LO X R):=@dite _ (∃o n,Cc f x o n) (Classical.propDecidable _) (fun h=>some (Classical.choose h)) fun _=>none
theorem Cc.det{X R:Type}{f:X->Option (LO X R)}: ∀ {x:X} {o o':LO X R} {n n':Nat},Cc f x o n->Cc f x o' n'->o=o'/\n=n':=by
 intro x o o' n n' h
 induction h generalizing o' n' with
 |brk h=>intro h';cases h' with
  |brk h'=>rw [h]at h';cases h';exact⟨rfl,rfl⟩
  |ret h'=>rw [h]at h';cases h'
  |step h' _=>rw [h]at h';cases h'
 |ret h=>intro h';cases h' with
  |brk h'=>rw [h]at h';cases h'
  |ret h'=>rw [h]at h';cases h';exact⟨rfl,rfl⟩
  |step h' _=>rw [h]at h';cases h'
 |step h _ ih=>intro h';cases h' with
  |brk h'=>rw [h]at h';cases h'
  |ret h'=>rw [h]at h';cases h'
  |step h' h2=>rw [h]at h';cases h';obtain⟨rfl,rfl⟩:=ih h2;exact⟨rfl,rfl⟩
theorem Cd{X R:Type}{f:X->Option (LO X R)}{x:X}{o:LO X R}:Ag f x=some o↔ ∃n,Cc f x o n:=by
 unfold Ag;split
 ·rename_i h
  obtain⟨n,hn⟩:=Classical.choose_spec h;constructor
  ·intro e;cases e;exact⟨n,hn⟩
  ·rintro ⟨n',h'⟩;rw [(hn.det h').1]
 ·rename_i h
  constructor
  ·intro e;cases e
  ·rintro ⟨n,hn⟩;exact absurd ⟨o,n,hn⟩ h
theorem Bl{X R:Type}(f:X->Option (LO X R))(x:X):Ag f x=(f x).bind fun o=>match o with
  | .next y=>Ag f y
  | .brk id y=>some (.brk id y)
  | .ret r=>some (.ret r):=by
 cases hf:f x with
 |none=>
  show Ag f x=none;cases h:Ag f x with
  |none=>rfl
  |some o=>
   obtain⟨n,hn⟩:=Cd.1 h;cases hn with
   |brk h'=>rw [hf]at h';cases h'
   |ret h'=>rw [hf]at h';cases h'
   |step h' _=>rw [hf]at h';cases h'
 |some o=>
  cases o with
  |brk id y=>exact Cd.2 ⟨0,.brk hf⟩
  |ret r=>exact Cd.2 ⟨0,.ret hf⟩
  |next y=>
   show Ag f x=Ag f y;cases h:Ag f y with
   |some o=>obtain⟨n,hn⟩:=Cd.1 h;exact Cd.2 ⟨n+1,.step hf hn⟩
   |none=>
    cases h2:Ag f x with
    |none=>rfl
    |some o=>
     obtain⟨n,hn⟩:=Cd.1 h2;cases hn with
     |brk h'=>rw [hf]at h';cases h'
     |ret h'=>rw [hf]at h';cases h'
     |step h' h3=>rw [hf]at h';cases h';rw [Cd.2 ⟨_,h3⟩]at h;cases h
def A9:List Ty->Ty
 | []=>.unit
 | [t]=>t
 |t::u::l=>.pair t (A9 (u::l))
def WB(t:Ty)(y:Dy):Option t.T:=if h:y.t=t then some (h▸y.x)else none
def toX:(tys:List Ty)->List Dy->Option (A9 tys).T
 | [],[]=>some ()
 | [t],[y]=>WB t y
 |t::u::l,y::ys=>match WB t y with
  |some x=>match toX (u::l) ys with
   |some z=>some (x,z)
   |none=>none
  |none=>none
 |_,_=>none
def ofX:(tys:List Ty)->(A9 tys).T->List Dy
 | [],_=>[]
 | [t],x=>[⟨t,x⟩]
 |t::u::l,x=>⟨t,x.1⟩::ofX (u::l) x.2
theorem WA{t:Ty}{y:Dy}{x:t.T}(h:WB t y=some x):(⟨t,x⟩:Dy)=y:=by
 unfold WB at h;split at h
 ·rename_i ht;subst ht;cases h;rfl
 ·cases h
theorem Qe: ∀ (tys:List Ty) (cs:List Dy) (x:(A9 tys).T),toX tys cs=some x->ofX tys x=cs
 | [],[],x,h=>rfl
 | [t],[y],x,h=>by show [(⟨t,x⟩:Dy)]= [y];rw [WA h]
 |t::u::l,y::ys,x,h=>by
  have h:(match WB t y with
   |some x=>match toX (u::l) ys with
    |some z=>some (x,z)
    |none=>none
   |none=>none:Option (A9 (t::u::l)).T)=some x:=h
  split at h
  case h_2=>cases h
  rename_i x1 h1;split at h
  case h_2=>cases h
  rename_i z h2;cases h;show(⟨t,x1⟩:Dy)::ofX (u::l) z=_;rw [WA h1,Qe (u::l) ys z h2]
 | [],_::_,_,h=>by cases h
 | [_],[],_,h=>by cases h
 | [_],_::_::_,_,h=>by cases h
 |_::_::_,[],_,h=>by cases h
structure AA extends Env where
 lp:List (Nat×List Nat×List Nat)
 dn:List (Nat×Nat)
def Bo:Code->Nat
 | .region id _ _=>id
 | .seq a b=>match a with
  | .skip=>Bo b
  | .label _=>Bo b
  |a=>Bo a
 | .block _ b=>Bo b
 | .loop b=>Bo b
 | .scope b=>Bo b
 |_=>0
def AD:Code->List Oper
 | .region _ ops _=>ops.toList
 | .seq a b=>AD a++AD b
 | .cond _ a b=>AD a++AD b
 | .block _ b=>AD b
 | .loop b=>AD b
 | .scope b=>AD b
 |_=>[]
def Nu:Code->List Nat
 | .exit id=>[id]
 | .seq a b=>Nu a++Nu b
 | .cond _ a b=>Nu a++Nu b
 | .block id b=>(Nu b).filter fun i=>!Nat.beq i id
 | .loop b=>Nu b
 |_=>[]
def lookN{α:Type}(d:α):List (Nat×α)->Nat->α
 | [],_=>d
 |(i,x)::l,k=>bif Nat.beq i k then x else lookN d l k
def clId:Cl->List Nat
 | .rf id _=>[id]
 | .rp id _ _ _=>[id]
 | .rs id _ _ _=>[id]
 |_=>[]
def slId:Sl->List Nat
 | .one c=>clId c
 |_=>[]
def condN(s:St)(c:Nat):Bool:=bif Nat.ble 2000000 c then(match slId (s.t (c-2000000))with
 | []=>true
 |_=>false)else bif Nat.ble 1000000 c then(slId (s.t ((c-1000000)/1000))).any fun i=>Nat.beq i ((c-1000000) % 1000)else true
def QT(s:St):List (Nat×List Nat×List Nat)->Nat->List Nat×List Nat
 | [],_=>([],[])
 |(i,L,R)::l,k=>bif Nat.beq i k then(bif R.all (condN s)then(L,R.filter fun c=>!Nat.ble 1000000 c)else QT s l k)else QT s l k
def V8(o:Oper):Bool:=match o.op with
 | .store _ _ _=>true
 |_=>false
def Aau(o:Oper):Bool:=match o.op with
 | .build _ _=>true
 | .buildSlice _ _ _=>true
 |_=>V8 o
def Wa(E:Env)(o:Oper):Bool:=V8 o||match VT E o with
 |some (.app _ _ _ _)=>true
 |some (.cw _ _ _)=>true
 |_=>false
def UB:List Oper->Nat
 | []=>0
 |o::l=>match o.op with
  | .assign _=>UB l+1
  |_=>0
def isNew(ops:Array Oper)(y:Nat):Bool:=ops.toList.any fun o=>match o.op,o.dst with
 | .alloc _,some d=>Nat.beq d y
 |_,_=>false
def isMade(ops:Array Oper)(y:Nat):Bool:=ops.toList.any fun o=>match o.dst with
 |some d=>Nat.beq d y&&(match o.op with
  | .buildSlice _ _ _=>true
  | .makeSlice _ _ _=>true
  |op=>(WI op).isSome)
 |none=>false
def isLate(E:Env)(ops:Array Oper)(o:Oper):Bool:=match o.op with
 | .store _ (.tmp y) _=>!isNew ops y
 | .store _ _ _=>true
 |_=>match WI o.op with
  |some (_,.tmp y,_)=>!isMade ops y
  |some _=>true
  |none=>Wa E o
def headD(E:Env)(ops:Array Oper):Nat:=bif ops.toList.any (Wa E)then ops.toList.findIdx (fun o=>Aau o||Wa E o)else
 bif DR ops (ops.size-UB ops.toList.reverse)then ops.size-UB ops.toList.reverse else ops.size
def headN(E:AA)(id:Nat)(ops:Array Oper):Nat:=lookN (bif DR ops (headD E.toEnv ops)then headD E.toEnv ops else ops.toList.findIdx (isLate E.toEnv ops)) E.dn id
def brkK{R:Type}(K:Exit->St->Option R):List Nat->Nat->St->Option R
 | [],_,_=>none
 |i::l,id,s=>nif id i (K (.exit i) s) (brkK K l id s)
@[reducible] def AM {X R:Type} (o:Option R):Option (LO X R):=o.map .ret
@[reducible] def LO.fin {X R:Type} (f:Nat->X->Option R):LO X R->Option R
 | .brk id x=>f id x
 | .ret r=>some r
 | .next _=>none
def Q1{R:Type}(L Rh:List Nat)(s:St)(keep:Nat)(tys:List Ty)(K:Exit->St->Option R)(e:Exit)(s':St):Option (LO (A9 tys).T R):=match e with
 | .normal=>match X5 L Rh s s' keep with
  |some cs=>match toX tys cs with
   |some x=>some (.next x)
   |none=>none
  |none=>none
 | .exit id=>match X5 L Rh s s' keep with
  |some cs=>match toX tys cs with
   |some x=>some (.brk id x)
   |none=>none
  |none=>none
 | .ret=>AM (K .ret s')
 |_=>none
def Yb{R:Type}(b:Code)(L Rh:List Nat)(s:St)(tys:List Ty)(K:Exit->St->Option R):LO (A9 tys).T R->Option R:=
 LO.fin fun id x=>brkK K (Nu b).eraseDups id (A2 false (AD b) L Rh s (ofX tys x))
def Hs(b:List Oper)(L Rh:List Nat)(s:St):Bool:=L.all (fun d=>!(Aq b d&&(s.t d).stay))&&Rh.all fun i=>!(s.r.getD i .dead).isRo
def LH:List Nat->St->St
 | [],s=>s
 |id::l,s=>match s.r.getD id .dead with
  | .arr false (.sl u) d xs=>bif Nat.beq u.dep 0 then LH l ⟨s.t,s.r.set id (.arr false (.osl u) d (Mk xs))⟩else LH l s
  |_=>LH l s
def ozOf:List (Nat×Nat)->Nat->List Nat
 | [],_=>[]
 |(a,b)::l,k=>bif Nat.beq a (k+1000000)then b::ozOf l k else ozOf l k
theorem I9: ∀ (u:Ty) (d:Nat) (x:u.T),u.dep=0->∀c∈Au u d x,∀ro,c.node ro= .dead
 | .int _,_,_,_,c,h,_=>by rw [List.mem_singleton.1 h];rfl
 | .bool,_,_,_,c,h,_=>by rw [List.mem_singleton.1 h];rfl
 | .str,_,_,_,c,h,_=>by rw [List.mem_singleton.1 h];rfl
 | .unit,_,_,_,c,h,_=>by cases h
 | .pair a b,d,x,hd,c,h,ro=>by
  simp only [Ty.dep]at hd;rcases List.mem_append.1 h with h|h
  ·exact I9 a d x.1 (by omega) c h ro
  ·exact I9 b d x.2 (by omega) c h ro
 | .sl _,_,_,h,_,_,_=>by simp [Ty.dep]at h
 | .ptr _,_,_,h,_,_,_=>by simp [Ty.dep]at h
 | .clo _ _,_,_,h,_,_,_=>by simp [Ty.dep]at h
 | .osl _,_,_,h,_,_,_=>by simp [Ty.dep]at h
theorem PF{α:Type}(xs:List (List α))(i:Nat):(Mk xs).getD i (some [])=some (xs.getD i []):=by
 unfold Mk;simp only [gDE,List.getElem?_map];cases xs[i]? <;>rfl
theorem Z5{u:Ty}{d:Nat}{xs:List (List u.T)}:(Ae.arr false (.osl u) d (Mk xs)).v=(Ae.arr false (.sl u) d xs).v:=by
 show arr true 1 (tyV (.osl u) d) (some []) (Mk xs)=arr true 1 (tyV (.sl u) d) [] xs;unfold arr;have hl:(Mk xs).length=xs.length:=by simp [Mk]
 rw [hl]
 congr 1
 funext i k
 rw [PF];rfl
theorem VG{u:Ty}{d:Nat}{xs:List (List u.T)}(hu:u.dep=0): ∀q:AP,((Ae.arr false (.osl u) d (Mk xs)).at' q).len=((Ae.arr false (.sl u) d xs).at' q).len
 | []=>by show(Mk xs).length=xs.length;simp [Mk]
 |(i,0)::q=>by
  show(((Cl.c (.osl u) d ((Mk xs).getD i (some []))).node false).at' q).len=(((Cl.c (.sl u) d (xs.getD i [])).node false).at' q).len;rw [PF];cases d with
  |zero=>rfl
  |succ d=>
   cases q with
   |nil=>rfl
   |cons a q=>
    obtain⟨i2,k2⟩:=a;show(((([]:List Cl).getD k2 .dead).node false).at' q).len=((((Au u d ((xs.getD i []).getD i2 u.dflt)).getD k2 .dead).node false).at' q).len
    have e:((Au u d ((xs.getD i []).getD i2 u.dflt)).getD k2 .dead).node false= .dead:=by
     by_cases hk:k2<(Au u d ((xs.getD i []).getD i2 u.dflt)).length
     ·rw [gDE,gEE hk]
      exact I9 u d _ hu _ (List.getElem_mem hk) _
     ·rw [gDE,List.getElem?_eq_none (by omega)];rfl
    rw [e];rfl
 |(i,k+1)::q=>by
  have e1:(Ae.arr false (.osl u) d (Mk xs)).at' ((i,k+1)::q)= .dead:=Cp q;have e2:(Ae.arr false (.sl u) d xs).at' ((i,k+1)::q)= .dead:=Cp q;rw [e1,e2]
theorem Cl.v_lens{r r':List Ae}(h: ∀id q,(Af r' id q).len=(Af r id q).len)(y:Cl):y.v r'=y.v r:=by
 cases y with
 |rf id p=>show V.rs id p 0 _=V.rs id p 0 _;rw [h]
 |_=>rfl
theorem Sl.v_lens{r r':List Ae}(h: ∀id q,(Af r' id q).len=(Af r id q).len)(y:Sl):y.v r'=y.v r:=by
 have e:Cl.v r'=Cl.v r:=funext fun c=>Cl.v_lens h c
 cases y with
 |one c=>exact Cl.v_lens h c
 |new l=>rfl
 |agg l=>show Ai _=Ai _;rw [e]
 |tup l=>show CP _=CP _;rw [e]
 |pk t l=>show pkL t _=pkL t _;rw [e]
theorem Ho: ∀ (l:List Nat) (s:St),(LH l s).den=s.den/\∀g,Kp g s (LH l s)
 | [],s=>⟨rfl,fun g=>Kp.refl _ _⟩
 |id::l,s=>by
  unfold LH;split
  ·rename_i u d xs hr
   cases hb:Nat.beq u.dep 0 with
   |false=>exact Ho l s
   |true=>
    have hu:=bqE hb;obtain⟨h1,h2⟩:=Ho l ⟨s.t,s.r.set id (.arr false (.osl u) d (Mk xs))⟩;have hid:id<s.r.length:=by
     rcases Nat.lt_or_ge id s.r.length with h|h
     ·exact h
     ·rw [gDE,List.getElem?_eq_none h]at hr;cases hr
    have hn: ∀id' q,(Af (s.r.set id (.arr false (.osl u) d (Mk xs))) id' q).len=(Af s.r id' q).len:=by
     intro id' q;by_cases he:id'=id
     ·subst he
      unfold Af;have e:(s.r.set id' (.arr false (.osl u) d (Mk xs))).getD id' .dead= .arr false (.osl u) d (Mk xs):=by simp [hid]
      rw [e,hr];exact VG hu q
     ·rw [BJ he]
    have hσ:(s.r.set id (.arr false (.osl u) d (Mk xs))).map Ae.v=s.r.map Ae.v:=by
     rw [List.map_set,Z5,<-hr];apply List.ext_getElem?;intro i;rw [List.getElem?_set];split
     ·rename_i e
      subst e;simp [hid]
     ·rfl
    refine⟨?_,fun g=>?_⟩
    ·show(LH l _).den=_
     rw [h1];unfold St.den;simp only [hσ]
     congr 1
     funext i
     exact Sl.v_lens hn _
    ·refine Kp.trans (s1:=⟨s.t,s.r.set id (.arr false (.osl u) d (Mk xs))⟩) (g1:=g) (g2:=g) ⟨fun i _ _=>rfl,fun id' _ hro=>?_,by simp⟩ (h2 g) (fun _ h=>h) fun _ h=>h
     have hne:id≠id':=by
      rintro rfl
      rw [hr]at hro;cases hro
     simp only [gDE,List.getElem?_set_ne hne]
  ·exact Ho l s
noncomputable def BC(H:Code->{R:Type}->St->(Exit->St->Option R)->Option R)(E:AA):Code->{R:Type}->St->(Exit->St->Option R)->Option R
 | .skip,_,s,K=>K .normal s
 | .region _ ops false,_,s,K=>W0 E.toEnv ops (Uq ops.size ops.toList) s (K .normal)
 | .region id ops true,_,s,K=>Zp E.toEnv (headN E id ops) ops s (K .normal)
 | .seq a b,_,s,K=>BC H E a s fun e s'=>match e with
  | .normal=>BC H E b s' K
  | .exit id=>K (.exit id) s'
  | .ret=>K .ret s'
  | .goto l=>K (.goto l) s'
  |_=>none
 | .cond c x y,_,s,K=>match s.ev c with
  |some (.one (.c .bool _ b))=>WD b (BC H E x s K) (BC H E y s K)
  |_=>none
 | .block id b,_,s,K=>BC H E b s fun e s'=>match e with
  | .exit i=>bif Nat.beq i id then K .normal s' else K (.exit i) s'
  | .normal=>K .normal s'
  | .ret=>K .ret s'
  | .goto l=>K (.goto l) s'
  |_=>none
 | .loop b,R,s0,K=>match LH (ozOf E.dn (Bo b)) s0 with
  |s=>match QT s E.lp (Bo b)with
  |(L,Rh)=>bif Hs (AD b) L Rh s then(match X5 L Rh s s E.h.keep with
   |some cs=>match toX (cs.map (·.t)) cs with
    |some x=>I7 (Ag (fun x=>BC H E b (A2 true (AD b) L Rh s (ofX (cs.map (·.t)) x)) (Q1 L Rh s E.h.keep (cs.map (·.t)) K)) x) (Yb b L Rh s (cs.map (·.t)) K)
    |none=>none
   |none=>none)else none
 | .exit id,_,s,K=>K (.exit id) s
 | .label _,_,s,K=>K .normal s
 | .goto l,_,s,K=>K (.goto l) s
 | .ret,_,s,K=>K .ret s
 | .scope c,_,s,K=>H c s K
 |_,_,_,_=>none
def Bf:Code->List Nat
 | .seq a b=>Bf a++Bf b
 | .label l=>[l]
 |_=>[]
def BI:Code->Nat->Option Code
 | .seq a b,l=>match a with
  | .label l'=>bif Nat.beq l' l then some b else BI b l
  |_=>BI b l
 |_,_=>none
def Nf:List Nat->Bool
 | []=>true
 |a::l=>!l.contains a&&Nf l
theorem Nc: ∀ {l:List Nat},Nf l=true->l.Nodup
 | [],_=>List.nodup_nil
 |a::l,h=>by
  have h:(!l.contains a&&Nf l)=true:=h;rw [bAE,Bool.not_eq_true']at h;exact List.nodup_cons.2 ⟨fun hm=>by rw [List.contains_eq_mem,decide_eq_false_iff_not]at h;exact h.1 hm,Nc h.2⟩
def OA:Code->Bool
 | .label _=>true
 |_=>false
def Jv:Code->Bool
 | .seq a b=>(OA a||(Bf a).isEmpty)&&Jv b
 |c=>(Bf c).isEmpty
@[reducible] def LO.fin1 {X R:Type}:LO X R->Option R
 | .ret r=>some r
 |_=>none
def Ua{R:Type}(L Rh:List Nat)(s:St)(keep:Nat)(tys:List Ty)(l:Nat)(s':St):Option (LO (Nat×(A9 tys).T) R):=match X5 L Rh s s' keep with
 |some cs=>match toX tys cs with
  |some x=>some (.next (l,x))
  |none=>none
 |none=>none
def AaA{R:Type}(L Rh:List Nat)(s:St)(keep:Nat)(tys:List Ty)(K:Exit->St->Option R)(e:Exit)(s':St):Option (LO (Nat×(A9 tys).T) R):=match e with
 | .goto l=>Ua L Rh s keep tys l s'
 | .normal=>AM (K .normal s')
 | .exit id=>AM (K (.exit id) s')
 | .ret=>AM (K .ret s')
 |_=>none
noncomputable def DK(E:AA):Code->{R:Type}->St->(Exit->St->Option R)->(Nat->St->Option R)->Option R
 | .seq a b,_,s,K,KL=>match a with
  | .label l=>KL l s
  |a=>BC (fun _ _ _ _=>none) E a s fun e s'=>match e with
   | .normal=>DK E b s' K KL
   | .exit id=>K (.exit id) s'
   | .ret=>K .ret s'
   | .goto l=>K (.goto l) s'
   |_=>none
 |c,_,s,K,_=>BC (fun _ _ _ _=>none) E c s K
noncomputable def Ib(E:AA)(c:Code)(ops:List Oper)(L Rh:List Nat)(s:St)(tys:List Ty){R:Type}(K:Exit->St->Option R)(l:Nat)(x:(A9 tys).T):List Nat->Option (LO (Nat×(A9 tys).T) R)
 | []=>none
 |i::ls=>nif l i (match BI c i with
  |some rest=>DK E rest (A2 true ops L Rh s (ofX tys x)) (AaA L Rh s E.h.keep tys K) (Ua L Rh s E.h.keep tys)
  |none=>none) (Ib E c ops L Rh s tys K l x ls)
def YS{R:Type}(K:Exit->St->Option R)(e:Exit)(s:St):Option R:=match e with
 | .goto _=>none
 |e=>K e s
noncomputable def Va(E:AA)(c:Code){R:Type}(s:St)(K:Exit->St->Option R):Option R:=bif Jv c&&Nf (Bf c)then DK E c s (YS K) fun l s1=>match BI c l with
  |some c1=>match QT s1 E.lp (Bo c)with
   |(L,Rh)=>bif Hs (AD c1) L Rh s1 then(match X5 L Rh s1 s1 E.h.keep with
    |some cs=>match toX (cs.map (·.t)) cs with
     |some x=>I7 (Ag (fun y=>Ib E c (AD c1) L Rh s1 (cs.map (·.t)) K y.1 y.2 (Bf c)) (l,x)) LO.fin1
     |none=>none
    |none=>none)else none
  |none=>none else none
noncomputable def Zo(E:AA):Code->{R:Type}->St->(Exit->St->Option R)->Option R:=BC (Va E) E
theorem Jr{t0:Nat->Sl}: ∀ (L:List Nat) (cs:List Dy) (t:Nat->Sl) (i:Nat),L.contains i=false->(JV t0 L cs t).1 i=t i
 | [],cs,t,i,_=>rfl
 |d::L,cs,t,i,h=>by
  rw [List.contains_cons,Bool.or_eq_false_iff]at h;unfold JV;rw [Jr L _ _ i h.2];have hne:i≠d:=by
   intro e;subst e;simp at h
  exact Br hne
theorem HA{r0:List Ae}: ∀ (Rh:List Nat) (cs:List Dy) (r:List Ae) (i:Nat),Rh.contains i=false->(DY r0 Rh cs r).getD i .dead=r.getD i .dead
 | [],cs,r,i,_=>rfl
 |d::L,cs,r,i,h=>by
  rw [List.contains_cons,Bool.or_eq_false_iff]at h;unfold DY;rw [HA L _ _ i h.2];have hne:d≠i:=by
   intro e;subst e;simp at h
  simp only [gDE,List.getElem?_set_ne hne]
theorem Hz{r0:List Ae}: ∀ (Rh:List Nat) (cs:List Dy) (r:List Ae),(DY r0 Rh cs r).length=r.length
 | [],cs,r=>rfl
 |d::L,cs,r=>by unfold DY;rw [Hz L,List.length_set]
theorem OD{ro:Bool}{b:List Oper}{L Rh:List Nat}{s:St}{cs:List Dy}(h:Hs b L Rh s=true):Kp (Aq b) s (A2 ro b L Rh s cs):=by
 unfold Hs at h;rw [bAE]at h;refine⟨fun i hi hs=>?_,fun id hl hid=>?_,?_⟩
 ·have hc:L.contains i=false:=by
   cases hc:L.contains i with
   |false=>rfl
   |true=>
    have:=aET.1 h.1 i (by simpa using hc)
    rw [hi,hs]at this;cases this
  show(JV s.t L cs _).1 i=_;rw [Jr L _ _ i hc];show(bif Aq b i&&(s.t i).stay then s.t i else _)=_;rw [hi,hs];rfl
 ·have hc:Rh.contains id=false:=by
   cases hc:Rh.contains id with
   |false=>rfl
   |true=>
    have:=aET.1 h.2 id (by simpa using hc)
    rw [hid]at this;cases this
  show(DY s.r Rh _ (bif ro then s.r.map Bu else s.r)).getD id .dead=_;rw [HA Rh _ _ id hc];cases ro with
  |false=>rfl
  |true=>
   show(s.r.map Bu).getD id .dead=_
   have e:(s.r.map Bu).getD id .dead=Bu (s.r.getD id .dead):=by
    simp only [gDE,List.getElem?_map];cases s.r[id]? <;>rfl
   rw [e];generalize s.r.getD id .dead=x at hid;cases x with
   |dead=>rfl
   |obj ro l=>have hid:ro=true:=hid;subst hid;rfl
   |arr ro t d xs=>have hid:ro=true:=hid;subst hid;rfl
   |opt ro t d xs=>have hid:ro=true:=hid;subst hid;rfl
 ·show s.r.length<=(DY s.r Rh _ (bif ro then s.r.map Bu else s.r)).length
  rw [Hz];cases ro<;>simp
theorem Kw{b:List Oper}{L Rh:List Nat}{s s':St}{cs:List Dy}(hk:Kp (Aq b) (A2 true b L Rh s cs) s'):
  (∀i,L.contains i=false->Aq b i=true->(s.t i).stay=true->s'.t i=s.t i)/\
  (∀id,id<s.r.length->Rh.contains id=false->(s'.r.getD id .dead).v=(s.r.getD id .dead).v/\(s'.r.getD id .dead).len=(s.r.getD id .dead).len)/\
  (∀id,id<s.r.length->Rh.contains id=false->∀q:AP,((s'.r.getD id .dead).at' q).len=((s.r.getD id .dead).at' q).len):=by
 have hR: ∀id,id<s.r.length->Rh.contains id=false->s'.r.getD id .dead=Bu (s.r.getD id .dead):=fun id hl hc=>by
  have e:(A2 true b L Rh s cs).r.getD id .dead=Bu (s.r.getD id .dead):=by
   show(DY s.r Rh _ (s.r.map Bu)).getD id .dead=_;rw [HA Rh _ _ id hc];simp only [gDE,List.getElem?_map];cases s.r[id]? <;>rfl
  have hro:(Bu (s.r.getD id .dead)).isRo=true:=by cases s.r.getD id .dead<;>rfl
  have hlen:(A2 true b L Rh s cs).r.length=s.r.length:=by
   show(DY s.r Rh _ (s.r.map Bu)).length=_;rw [Hz,List.length_map]
  rw [hk.r id (by rw [hlen];exact hl) (by rw [e];exact hro),e]
 refine⟨fun i hc hi hs=>?_,fun id hl hc=>?_,fun id hl hc q=>by rw [hR id hl hc];exact Yp q _ _ (IV _)⟩
 ·have e:(A2 true b L Rh s cs).t i=s.t i:=by
   show(JV s.t L cs _).1 i=_;rw [Jr L _ _ i hc];show(bif Aq b i&&(s.t i).stay then s.t i else _)=_;rw [hi,hs];rfl
  rw [hk.t i hi (by rw [e];exact hs),e]
 ·have e:(A2 true b L Rh s cs).r.getD id .dead=Bu (s.r.getD id .dead):=by
   show(DY s.r Rh _ (s.r.map Bu)).getD id .dead=_;rw [HA Rh _ _ id hc];simp only [gDE,List.getElem?_map];cases s.r[id]? <;>rfl
  have hro:(Bu (s.r.getD id .dead)).isRo=true:=by cases s.r.getD id .dead<;>rfl
  have hlen:(A2 true b L Rh s cs).r.length=s.r.length:=by
   show(DY s.r Rh _ (s.r.map Bu)).length=_;rw [Hz,List.length_map]
  rw [hk.r id (by rw [hlen];exact hl) (by rw [e];exact hro),e]
  exact Lm _
theorem NF{R:Type}{K:Exit->St->Option R}{z:R}{s:St}: ∀ (l:List Nat) (id:Nat),brkK K l id s=some z->K (.exit id) s=some z
 | [],id,h=>by cases h
 |i::l,id,h=>by
  have h:(if id=i then K (.exit i) s else brkK K l id s)=some z:=h
  split at h
  ·rename_i e;subst e;exact h
  ·exact NF l id h
theorem Aaf{P:Program}{H:Code->{R:Type}->St->(Exit->St->Option R)->Option R}{E:AA}{C:Ctx}(hkeep:C.m<=E.h.keep){b:Code}
  (ih: ∀ {R:Type} (s:St) (K:Exit->St->Option R) (z:R) (Q:Exit->Act->World->Prop) (a:Act) (w:World),AT C E.h.n s.den a w->BC H E b s K=some z->(∀e s' a' w',Kp (Aq (AD b)) s s'->AT C E.h.n s'.den a' w'->K e s'=some z->Q e a' w')->b.wp P Q a w)
  {R:Type} {s:St} {K:Exit->St->Option R} {z:R} {Q:Exit->Act->World->Prop} {a:Act} {w:World} (hs:AT C E.h.n s.den a w) {L Rh:List Nat} (hok:Hs (AD b) L Rh s=true) {tys:List Ty} {cs:List Dy} (hcs:X5 L Rh s s E.h.keep=some cs) {x0:(A9 tys).T} (hx0':ofX tys x0=cs)
  (h:(Ag (fun x=>BC H E b (A2 true (AD b) L Rh s (ofX tys x)) (Q1 L Rh s E.h.keep tys K)) x0).bind (Yb b L Rh s tys K)=some z)
  (hQ: ∀e s' a' w',Kp (Aq (AD b)) s s'->AT C E.h.n s'.den a' w'->K e s'=some z->Q e a' w'):(Code.loop b).wp P Q a w:=by
 obtain⟨hd0,hdd0,D0,ρ0,F0,hcr0⟩:=id hs;have hml:C.m<=s.r.length:=by have:=hcr0.ml;simpa [St.den]using this
 let body:(A9 tys).T->Option (LO (A9 tys).T R):=fun x=>BC H E b (A2 true (AD b) L Rh s (ofX tys x)) (Q1 L Rh s E.h.keep tys K)
 have h:(Ag body x0).bind (Yb b L Rh s tys K)=some z:=h;cases hl:Ag body x0 with
 |none=>rw [hl]at h;cases h
 |some o0=>
  rw [hl]at h;have h:Yb b L Rh s tys K o0=some z:=h;obtain⟨n0,hn0⟩:=Cd.1 hl
  have h0:AT C E.h.n (A2 true (AD b) L Rh s (ofX tys x0)).den a w:=by
   rw [hx0'];exact Jo hs hcs hkeep hml (fun _ _ _ _=>rfl) (fun _ _ _=>⟨rfl,rfl⟩) fun _ _ _ _=>rfl
  let I':Act->World->Prop:=fun a w=>∃x n o,Cc body x o n/\Yb b L Rh s tys K o=some z/\AT C E.h.n (A2 true (AD b) L Rh s (ofX tys x)).den a w
  have hmin: ∀ (a:Act) (w:World),∃k,I' a w->(∃x n o,Cc body x o n/\Yb b L Rh s tys K o=some z/\AT C E.h.n (A2 true (AD b) L Rh s (ofX tys x)).den a w/\n=k)/\∀x n o,Cc body x o n->Yb b L Rh s tys K o=some z->AT C E.h.n (A2 true (AD b) L Rh s (ofX tys x)).den a w->k<=n:=by
   intro a w;by_cases hI:I' a w
   ·obtain⟨x,n,o,g1,g2,g3⟩:=hI
    obtain⟨k,hk,hlt⟩:=Aao (p:=fun k=>∃x n o,Cc body x o n/\Yb b L Rh s tys K o=some z/\AT C E.h.n (A2 true (AD b) L Rh s (ofX tys x)).den a w/\n=k) ⟨n,x,n,o,g1,g2,g3,rfl⟩
    exact⟨k,fun _=>⟨hk,fun x n o g1 g2 g3=>Nat.le_of_not_lt fun hl=>hlt n hl ⟨x,n,o,g1,g2,g3,rfl⟩⟩⟩
   ·exact⟨0,fun h=>absurd h hI⟩
  let μ':Act->World->Nat:=fun a w=>Classical.choose (hmin a w)
  have hμ':=fun a w hI=>Classical.choose_spec (hmin a w) hI
  refine wp_loop I' μ' ⟨x0,n0,o0,hn0,h,h0⟩ fun a w hI=>?_
  obtain⟨⟨x,n,o,g1,g2,g3,hn⟩,_⟩:=hμ' a w hI;have hn:n=μ' a w:=hn
  -- the round's own answer
  have hround: ∃lo,body x=some lo/\((∃y n',lo= .next y/\Cc body y o n'/\n=n'+1)\/(lo=o)):=by
   cases g1 with
   |brk h'=>exact⟨_,h',.inr rfl⟩
   |ret h'=>exact⟨_,h',.inr rfl⟩
   |step h' h2=>exact⟨_,h',.inl ⟨_,_,rfl,h2,rfl⟩⟩
  obtain⟨lo,hlo,hcase⟩:=hround;refine ih _ _ lo _ a w g3 hlo fun e s' a' w' hk hs' hz=>?_
  obtain⟨f1,f2,f3⟩:=Kw hk;have hk0:Kp (Aq (AD b)) s s':=Kp.trans (OD hok) hk (fun _ h=>h) fun _ h=>h
  cases e with
  |normal=>
   unfold Q1 at hz;simp only at hz;split at hz
   case h_2=>cases hz
   rename_i cs2 hcs2;split at hz
   case h_2=>cases hz
   rename_i x2 hx2;cases hz;rcases hcase with⟨y,n',he,hl2,hnn⟩|he
   ·cases he
    have hs2:AT C E.h.n (A2 true (AD b) L Rh s (ofX tys x2)).den a' w':=by
     rw [Qe _ _ _ hx2];exact Jo hs' hcs2 hkeep hml f1 f2 f3
    have hI2:I' a' w':=⟨x2,n',o,hl2,g2,hs2⟩;refine⟨hI2,?_⟩;have:=(hμ' a' w' hI2).2 x2 n' o hl2 g2 hs2;have:μ' a' w'<=n':=this;omega
   ·subst he
    cases g2
  |exit id=>
   unfold Q1 at hz;simp only at hz;split at hz
   case h_2=>cases hz
   rename_i cs2 hcs2;split at hz
   case h_2=>cases hz
   rename_i x2 hx2;cases hz;rcases hcase with⟨y,n',he,_⟩|he
   ·cases he
   ·subst he
    have g2:brkK K (Nu b).eraseDups id (A2 false (AD b) L Rh s (ofX tys x2))=some z:=g2
    have hs2:AT C E.h.n (A2 false (AD b) L Rh s (ofX tys x2)).den a' w':=by
     rw [Qe _ _ _ hx2];exact Jo hs' hcs2 hkeep hml f1 f2 f3
    exact hQ _ _ _ _ (OD hok) hs2 (NF _ _ g2)
  |ret=>
   have hz:(K .ret s').map LO.ret=some lo:=hz;cases hkr:K .ret s' with
   |none=>rw [hkr]at hz;cases hz
   |some r=>
    rw [hkr]at hz;cases hz;rcases hcase with⟨y,n',he,_⟩|he
    ·cases he
    ·subst he
     cases g2;exact hQ _ _ _ _ hk0 hs' hkr
  |goto l=>cases hz
  |panic ch=>cases hz
  |outgrown=>cases hz
def JH(P:Program)(E:AA)(C:Ctx)(H:Code->{R:Type}->St->(Exit->St->Option R)->Option R):Prop:=
 ∀ (c:Code) {R:Type} (s:St) (K:Exit->St->Option R) (z:R) (Q:Exit->Act->World->Prop) (a:Act) (w:World),AT C E.h.n s.den a w->H c s K=some z->
  (∀e s' a' w',Kp (Aq (AD c)) s s'->AT C E.h.n s'.den a' w'->K e s'=some z->Q e a' w')->(Code.scope c).wp P Q a w
theorem Mu{P:Program}{H:Code->{R:Type}->St->(Exit->St->Option R)->Option R}{E:AA}{C:Ctx}(hE:EOK P E.toEnv)(hm:P.follows .mixedOrders=true)(hkeep:C.m<=E.h.keep)(hH:JH P E C H): ∀ (c:Code) {R:Type} (s:St) (K:Exit->St->Option R) (z:R) (Q:Exit->Act->World->Prop) (a:Act) (w:World),AT C E.h.n s.den a w->BC H E c s K=some z->
  (∀e s' a' w',Kp (Aq (AD c)) s s'->AT C E.h.n s'.den a' w'->K e s'=some z->Q e a' w')->c.wp P Q a w:=by
 intro c
 induction c with
 |skip=>intro R s K z Q a w hs h hQ;exact wp_skip (hQ _ _ _ _ (Kp.refl _ _) hs h)
 |region id ops draw=>
  intro R s K z Q a w hs h hQ;cases draw with
  |false=>
   have h:W0 E.toEnv ops (Uq ops.size ops.toList) s (K .normal)=some z:=h;refine wp_region_list ?_;have:=UC hE (ops:=ops) (Q:=Q) _ s a w hs h fun s' a' w' hk hs' hz=>hQ .normal s' a' w' (by rw [B1]at hk;exact hk) hs' hz
   rw [B1]at this;exact this
  |true=>exact Xi hE hm hs h fun s' a' w' hk hs' hz=>hQ .normal s' a' w' hk hs' hz
 |seq x y ihx ihy=>
  intro R s K z Q a w hs h hQ
  have hsp: ∀i,Aq (AD (.seq x y)) i=true->Aq (AD x) i=true/\Aq (AD y) i=true:=fun i hi=>by
   have hi:Aq (AD x++AD y) i=true:=hi;rw [Dn,bAE]at hi;exact hi
  refine wp_seq (ihx s _ z _ a w hs h fun e s' a' w' hk hs' hz=>?_)
  have hk':Kp (Aq (AD (.seq x y))) s s':=hk.weak fun i hi=>(hsp i hi).1
  cases e with
  |normal=>exact ihy s' K z Q a' w' hs' hz fun e2 s2 a2 w2 hk2 hs2 hz2=>hQ e2 s2 a2 w2 (hk.trans hk2 (fun i hi=>(hsp i hi).1) fun i hi=>(hsp i hi).2) hs2 hz2
  |exit id=>exact hQ _ _ _ _ hk' hs' hz
  |ret=>exact hQ _ _ _ _ hk' hs' hz
  |goto l=>exact hQ _ _ _ _ hk' hs' hz
  |panic ch=>cases hz
  |outgrown=>cases hz
 |cond c x y ihx ihy=>
  intro R s K z Q a w hs h hQ
  have hsp: ∀i,Aq (AD (.cond c x y)) i=true->Aq (AD x) i=true/\Aq (AD y) i=true:=fun i hi=>by
   have hi:Aq (AD x++AD y) i=true:=hi;rw [Dn,bAE]at hi;exact hi
  have h:(match s.ev c with
   |some (.one (.c .bool _ b))=>bif b then BC H E x s K else BC H E y s K
   |_=>none)=some z:=h
  split at h
  ·rename_i d b hb
   obtain⟨hdd,D,ρ,F,hcr⟩:=hs.2;have h1:=B9 hcr hdd c;rw [A3 hb]at h1;refine wp_cond (t:=b) h1.1 ?_;cases b with
   |true=>exact ihx s K z Q a w hs h fun e s' a' w' hk=>hQ e s' a' w' (hk.weak fun i hi=>(hsp i hi).1)
   |false=>exact ihy s K z Q a w hs h fun e s' a' w' hk=>hQ e s' a' w' (hk.weak fun i hi=>(hsp i hi).2)
  ·cases h
 |block id b ih=>
  intro R s K z Q a w hs h hQ;refine wp_block (ih s _ z _ a w hs h fun e s' a' w' hk hs' hz=>?_)
  cases e with
  |exit id'=>
   simp only [Exit.inBlock];have hz:(bif Nat.beq id' id then K .normal s' else K (.exit id') s')=some z:=hz;by_cases he:id'=id
   ·subst he
    rw [Nat.beq_refl]at hz;rw [if_pos rfl];exact hQ _ _ _ _ hk hs' hz
   ·rw [B6 he]at hz
    rw [if_neg he];exact hQ _ _ _ _ hk hs' hz
  |normal=>exact hQ _ _ _ _ hk hs' hz
  |ret=>exact hQ _ _ _ _ hk hs' hz
  |goto l=>exact hQ _ _ _ _ hk hs' hz
  |panic ch=>cases hz
  |outgrown=>cases hz
 |loop b ih=>
  intro R s0 K z Q a w hs h hQ;unfold BC at h;obtain⟨s,hso⟩: ∃s,s=LH (ozOf E.dn (Bo b)) s0:=⟨_,rfl⟩;rw [<-hso]at h;obtain⟨hden,hkp⟩:=Ho (ozOf E.dn (Bo b)) s0;rw [<-hso]at hden hkp;rw [<-hden]at hs;have hQ: ∀e s' a' w',Kp (Aq (AD (.loop b))) s s'->AT C E.h.n s'.den a' w'->K e s'=some z->Q e a' w':=fun e s' a' w' hk=>hQ e s' a' w' ((hkp _).trans hk (fun _ h=>h) fun _ h=>h)
  have h:(match QT s E.lp (Bo b)with
   |(L,Rh)=>bif Hs (AD b) L Rh s then(match X5 L Rh s s E.h.keep with
    |some cs=>match toX (cs.map (·.t)) cs with
     |some x=>I7 (Ag (fun x=>BC H E b (A2 true (AD b) L Rh s (ofX (cs.map (·.t)) x)) (Q1 L Rh s E.h.keep (cs.map (·.t)) K)) x) (Yb b L Rh s (cs.map (·.t)) K)
     |none=>none
    |none=>none)else none)=some z:=h
  split at h
  rename_i L Rh hlp;cases hok:Hs (AD b) L Rh s with
  |false=>rw [hok]at h;cases h
  |true=>
   rw [hok]at h;simp only [cond_true]at h;split at h
   case h_2=>cases h
   rename_i cs hcs;split at h
   case h_2=>cases h
   rename_i x0 hx0;have hx0':=Qe _ _ _ hx0;exact Aaf hkeep ih hs hok hcs hx0' h hQ
 |exit id=>intro R s K z Q a w hs h hQ;exact wp_exit (hQ _ _ _ _ (Kp.refl _ _) hs h)
 |label l=>intro R s K z Q a w hs h hQ;exact wp_label (hQ _ _ _ _ (Kp.refl _ _) hs h)
 |ret=>intro R s K z Q a w hs h hQ;exact wp_ret (hQ _ _ _ _ (Kp.refl _ _) hs h)
 |goto l=>intro R s K z Q a w hs h hQ;exact wp_goto (hQ _ _ _ _ (Kp.refl _ _) hs h)
 |rangeFunc f ps x y _ _=>intro R s K z Q a w hs h hQ;cases h
 |scope c _=>intro R s K z Q a w hs h hQ;exact hH c s K z Q a w hs h hQ
 |refuse s=>intro R s K z Q a w hs h hQ;cases h
theorem K4{P:Program}{a:Act}{w:World}{Q:Exit->Act->World->Prop}{c:Code}(J:Nat->Act->World->Prop)(μ:Nat->Act->World->Nat)
  (first:c.wp P (fun e a w=>match e with
   | .goto l=>(∃r,findLabel c l=some r)/\J l a w
   |e=>Q e a w) a w)
  (pass: ∀l r a w,findLabel c l=some r->J l a w->r.wp P (fun e a' w'=>match e with
   | .goto l'=>(∃r',findLabel c l'=some r')/\J l' a' w'/\μ l' a' w'<μ l a w
   |e=>Q e a' w') a w):(Code.scope c).wp P Q a w:=by
 intro b k cs;have hg: ∀l r,findLabel c l=some r->gotoIn l (.inScope c::k)=some (.code r:: .inScope c::k):=fun l r hf=>by simp [gotoIn,hf]
 have key: ∀n l r a w,findLabel c l=some r->μ l a w=n->J l a w->∃e a' w',Q e a' w'/\Arrives P (lone (b.at a (.code r:: .inScope c::k)) cs w) b k cs e a' w':=by
  intro n
  induction n using Nat.strongRecOn with
  |_ n ih=>
   intro l r a w hf hn hJ;obtain⟨e,a₁,w₁,hq,harr⟩:=pass l r a w hf hJ b (.inScope c::k) cs;cases e with
   |normal=>exact⟨.normal,a₁,w₁,hq,Steps.trans harr (.one step_inScope)⟩
   |exit id=>exact⟨.exit id,a₁,w₁,hq,fun k' hk=>harr k' (by simp [exitTo,hk])⟩
   |goto l'=>
    obtain⟨⟨r',hf'⟩,hJ',hlt⟩:=hq;obtain⟨e₂,a₂,w₂,hq₂,harr₂⟩:=ih _ (by omega) l' r' a₁ w₁ hf' rfl hJ'
    exact⟨e₂,a₂,w₂,hq₂,.of_steps (harr _ (hg l' r' hf')) harr₂⟩
   |ret=>exact⟨_,a₁,w₁,hq,harr⟩
   |panic ch=>exact⟨_,a₁,w₁,hq,harr⟩
   |outgrown=>exact⟨_,a₁,w₁,hq,harr⟩
 obtain⟨e,a₁,w₁,hq,harr⟩:=first b (.inScope c::k) cs
 cases e with
 |normal=>exact⟨.normal,a₁,w₁,hq,.head step_scope (Steps.trans harr (.one step_inScope))⟩
 |exit id=>exact⟨.exit id,a₁,w₁,hq,fun k' hk=>.head step_scope (harr k' (by simp [exitTo,hk]))⟩
 |goto l'=>
  obtain⟨⟨r',hf'⟩,hJ'⟩:=hq;obtain⟨e₂,a₂,w₂,hq₂,harr₂⟩:=key _ l' r' a₁ w₁ hf' rfl hJ';exact⟨e₂,a₂,w₂,hq₂,.of_steps (.head step_scope (harr _ (hg l' r' hf'))) harr₂⟩
 |ret=>exact⟨_,a₁,w₁,hq,.of_steps (.one step_scope) harr⟩
 |panic ch=>exact⟨_,a₁,w₁,hq,.of_steps (.one step_scope) harr⟩
 |outgrown=>exact⟨_,a₁,w₁,hq,.of_steps (.one step_scope) harr⟩
theorem CF{a b:Code}(h: ¬∃l,a= .label l)(l:Nat):BI (.seq a b) l=BI b l:=by
 cases a<;>first|rfl|exact absurd ⟨_,rfl⟩ h
theorem Qg{E:AA}{a b:Code}(h: ¬∃l,a= .label l){R:Type}(s:St)(K:Exit->St->Option R)(KL:Nat->St->Option R):DK E (.seq a b) s K KL=BC (fun _ _ _ _=>none) E a s fun e s'=>match e with
   | .normal=>DK E b s' K KL
   | .exit id=>K (.exit id) s'
   | .ret=>K .ret s'
   | .goto l=>K (.goto l) s'
   |_=>none:=by
 cases a<;>first|rfl|exact absurd ⟨_,rfl⟩ h
theorem DU: ∀ (c:Code) (l:Nat),(Bf c).isEmpty=true->findLabel c l=none
 | .seq a b,l,h=>by
  have h:(Bf a++Bf b).isEmpty=true:=h;rw [List.isEmpty_iff,List.append_eq_nil_iff]at h;have h:(Bf a).isEmpty=true/\(Bf b).isEmpty=true:=⟨by rw [h.1];rfl,by rw [h.2];rfl⟩
  unfold findLabel;rw [DU a l h.1,DU b l h.2]
 | .label l',l,h=>by cases h
 | .skip,_,_=>rfl
 | .region ..,_,_=>rfl
 | .cond ..,_,_=>rfl
 | .block ..,_,_=>rfl
 | .loop ..,_,_=>rfl
 | .exit ..,_,_=>rfl
 | .goto ..,_,_=>rfl
 | .ret,_,_=>rfl
 | .scope ..,_,_=>rfl
 | .rangeFunc ..,_,_=>rfl
 | .refuse ..,_,_=>rfl
theorem Iy{P:Program}: ∀ (c b:Code) (l:Nat),Jv c=true->BI c l=some b->∃r,findLabel c l=some r/\∀Q a w,b.wp P Q a w->r.wp P Q a w
 | .seq a b',b,l,hc,h=>by
  have hc:((OA a||(Bf a).isEmpty)&&Jv b')=true:=hc;rw [bAE,Bool.or_eq_true]at hc;by_cases hl: ∃l',a= .label l'
  ·obtain⟨l',rfl⟩:=hl
   have h:(bif Nat.beq l' l then some b' else BI b' l)=some b:=h;cases he:Nat.beq l' l with
   |true=>
    rw [he]at h;have e:l'=l:=bqE he;subst e;obtain rfl:b'=b:=Option.some.inj h;exact⟨.seq .skip b',by simp [findLabel],fun Q a w hw=>wp_seq (wp_skip hw)⟩
   |false=>
    rw [he]at h;obtain⟨r,h1,h2⟩:=Iy b' b l hc.2 h;refine⟨r,?_,h2⟩;have e:l'≠l:=fun e=>by subst e;rw [Nat.beq_refl]at he;cases he
    simp [findLabel,e,h1]
  ·rw [CF hl]at h
   obtain⟨r,h1,h2⟩:=Iy b' b l hc.2 h;refine⟨r,?_,h2⟩;have hn:findLabel a l=none:=by
    rcases hc.1 with h'|h'
    ·exfalso
     unfold OA at h';split at h'
     ·exact hl ⟨_,rfl⟩
     ·cases h'
    ·exact DU a l h'
   unfold findLabel;rw [hn,h1]
 | .label ..,_,_,_,h=>by cases h
 | .skip,_,_,_,h=>by cases h
 | .region ..,_,_,_,h=>by cases h
 | .cond ..,_,_,_,h=>by cases h
 | .block ..,_,_,_,h=>by cases h
 | .loop ..,_,_,_,h=>by cases h
 | .exit ..,_,_,_,h=>by cases h
 | .goto ..,_,_,_,h=>by cases h
 | .ret,_,_,_,h=>by cases h
 | .scope ..,_,_,_,h=>by cases h
 | .rangeFunc ..,_,_,_,h=>by cases h
 | .refuse ..,_,_,_,h=>by cases h
def KA:Code->Option Nat
 | .seq a b=>match a with
  | .label l=>some l
  |_=>KA b
 |_=>none
theorem Kz{a b:Code}(h: ¬∃l,a= .label l):KA (.seq a b)=KA b:=by
 cases a<;>first|rfl|exact absurd ⟨_,rfl⟩ h
theorem N5{b r:Code}{l i:Nat}: ∀ {c:Code},KA c=some l->BI c l=some b->BI c i=some r->(i=l/\r=b)\/BI b i=some r:=by
 intro c
 induction c with
 |seq a b' iha ihb=>
  intro h1 h2 h3;by_cases hl: ∃l',a= .label l'
  ·obtain⟨l',rfl⟩:=hl
   have h1:some l'=some l:=h1;cases h1;have h2:(bif Nat.beq l l then some b' else BI b' l)=some b:=h2;rw [Nat.beq_refl]at h2;obtain rfl:b'=b:=Option.some.inj h2;have h3:(bif Nat.beq l i then some b' else BI b' i)=some r:=h3;cases he:Nat.beq l i with
   |true=>rw [he]at h3;cases h3;exact .inl ⟨(bqE he).symm,rfl⟩
   |false=>rw [he]at h3;exact .inr h3
  ·have e1:=Kz (b:=b') hl
   have e2:=CF (b:=b') hl;rw [e1]at h1;rw [e2]at h2 h3;exact ihb h1 h2 h3
 |_=>intro h1;cases h1
theorem I1{i:Nat}: ∀ (c b:Code) (l:Nat),BI c l=some b->Aq (AD c) i=true->Aq (AD b) i=true:=by
 intro c
 induction c with
 |seq a b' iha ihb=>
  intro b l h hi;have hi:Aq (AD a++AD b') i=true:=hi;rw [Dn,bAE]at hi;by_cases hl: ∃l',a= .label l'
  ·obtain⟨l',rfl⟩:=hl
   have h:(bif Nat.beq l' l then some b' else BI b' l)=some b:=h;cases he:Nat.beq l' l with
   |true=>rw [he]at h;cases h;exact hi.2
   |false=>rw [he]at h;exact ihb b l h hi.2
  ·rw [CF hl]at h;exact ihb b l h hi.2
 |_=>intro b l h;cases h
theorem JH.none{P:Program}{E:AA}{C:Ctx}:JH P E C (fun _ _ _ _=>.none):=fun _ _ _ _ _ _ _ _ _ h=>by cases h
theorem Mt{P:Program}{E:AA}{C:Ctx}(hE:EOK P E.toEnv)(hm:P.follows .mixedOrders=true)(hkeep:C.m<=E.h.keep): ∀ (c:Code) {R:Type} (s:St) (K:Exit->St->Option R) (KL:Nat->St->Option R) (z:R) (Q:Exit->Act->World->Prop) (a:Act) (w:World),AT C E.h.n s.den a w->DK E c s K KL=some z->
  (∀e s' a' w',Kp (Aq (AD c)) s s'->AT C E.h.n s'.den a' w'->K e s'=some z->Q e a' w')->
  (∀l b s' a' w',Kp (Aq (AD c)) s s'->AT C E.h.n s'.den a' w'->KL l s'=some z->KA c=some l->BI c l=some b->b.wp P Q a' w')->c.wp P Q a w:=by
 have base: ∀ (c:Code) {R:Type} (s:St) (K:Exit->St->Option R) (z:R) (Q:Exit->Act->World->Prop) (a:Act) (w:World),AT C E.h.n s.den a w->BC (fun _ _ _ _=>.none) E c s K=some z->
  (∀e s' a' w',Kp (Aq (AD c)) s s'->AT C E.h.n s'.den a' w'->K e s'=some z->Q e a' w')->c.wp P Q a w:=Mu hE hm hkeep JH.none
 intro c
 induction c with
 |seq x y ihx ihy=>
  intro R s K KL z Q a w hs h hQ hL
  have hsp: ∀i,Aq (AD (.seq x y)) i=true->Aq (AD x) i=true/\Aq (AD y) i=true:=fun i hi=>by
   have hi:Aq (AD x++AD y) i=true:=hi;rw [Dn,bAE]at hi;exact hi
  by_cases hl: ∃l,x= .label l
  ·obtain⟨l,rfl⟩:=hl
   have h:KL l s=some z:=h;exact wp_seq (wp_label (hL l y s a w (Kp.refl _ _) hs h rfl (by show(bif Nat.beq l l then some y else BI y l)=_;rw [Nat.beq_refl];rfl)))
  ·have h:BC (fun _ _ _ _=>.none) E x s (fun e s'=>match e with
    | .normal=>DK E y s' K KL
    | .exit id=>K (.exit id) s'
    | .ret=>K .ret s'
    | .goto l=>K (.goto l) s'
    |_=>.none)=some z:=(Qg hl s K KL).symm.trans h
   have e1:=Kz (b:=y) hl;have e2:=CF (b:=y) hl;refine wp_seq (base x s _ z _ a w hs h fun e s' a' w' hk hs' hz=>?_)
   have hk':Kp (Aq (AD (.seq x y))) s s':=hk.weak fun i hi=>(hsp i hi).1
   cases e with
   |normal=>
    exact ihy s' K KL z Q a' w' hs' hz (fun e2 s2 a2 w2 hk2 hs2 hz2=>hQ e2 s2 a2 w2 (hk.trans hk2 (fun i hi=>(hsp i hi).1) fun i hi=>(hsp i hi).2) hs2 hz2)
     fun l b s2 a2 w2 hk2 hs2 hz2 h1 h2=>hL l b s2 a2 w2 (hk.trans hk2 (fun i hi=>(hsp i hi).1) fun i hi=>(hsp i hi).2) hs2 hz2 (e1.trans h1) ((e2 l).trans h2)
   |exit id=>exact hQ _ _ _ _ hk' hs' hz
   |ret=>exact hQ _ _ _ _ hk' hs' hz
   |goto l=>exact hQ _ _ _ _ hk' hs' hz
   |panic ch=>cases hz
   |outgrown=>cases hz
 |skip=>intro R s K KL z Q a w hs h hQ _;exact base _ s K z Q a w hs h hQ
 |region=>intro R s K KL z Q a w hs h hQ _;exact base _ s K z Q a w hs h hQ
 |cond=>intro R s K KL z Q a w hs h hQ _;exact base _ s K z Q a w hs h hQ
 |block=>intro R s K KL z Q a w hs h hQ _;exact base _ s K z Q a w hs h hQ
 |loop=>intro R s K KL z Q a w hs h hQ _;exact base _ s K z Q a w hs h hQ
 |exit=>intro R s K KL z Q a w hs h hQ _;exact base _ s K z Q a w hs h hQ
 |label=>intro R s K KL z Q a w hs h hQ _;exact base _ s K z Q a w hs h hQ
 |ret=>intro R s K KL z Q a w hs h hQ _;exact base _ s K z Q a w hs h hQ
 |goto=>intro R s K KL z Q a w hs h hQ _;exact base _ s K z Q a w hs h hQ
 |rangeFunc=>intro R s K KL z Q a w hs h hQ _;exact base _ s K z Q a w hs h hQ
 |scope=>intro R s K KL z Q a w hs h hQ _;exact base _ s K z Q a w hs h hQ
 |refuse=>intro R s K KL z Q a w hs h hQ _;exact base _ s K z Q a w hs h hQ
theorem I0{E:AA}{c:Code}{ops:List Oper}{L Rh:List Nat}{s:St}{tys:List Ty}{R:Type}{K:Exit->St->Option R}{l:Nat}{x:(A9 tys).T}{o:LO (Nat×(A9 tys).T) R}: ∀ (ls:List Nat),Ib E c ops L Rh s tys K l x ls=some o->
  ∃r,BI c l=some r/\DK E r (A2 true ops L Rh s (ofX tys x)) (AaA L Rh s E.h.keep tys K) (Ua L Rh s E.h.keep tys)=some o
 | [],h=>by cases h
 |i::ls,h=>by
  have h:(if l=i then(match BI c i with
   |some rest=>DK E rest (A2 true ops L Rh s (ofX tys x)) (AaA L Rh s E.h.keep tys K) (Ua L Rh s E.h.keep tys)
   | .none=>.none)else Ib E c ops L Rh s tys K l x ls)=some o:=h
  split at h
  ·rename_i e
   subst e;split at h
   ·rename_i r hr;exact⟨r,hr,h⟩
   ·cases h
  ·exact I0 ls h
theorem Vf{X R:Type}{o:Option R}{lo:LO X R}(h:AM o=some lo): ∃z,o=some z/\lo= .ret z:=by
 cases o with
 |none=>cases h
 |some z=>cases h;exact⟨z,rfl,rfl⟩
theorem Vg: ∀ {c b:Code} {l:Nat},BI c l=some b->l∈Bf c:=by
 intro c
 induction c with
 |seq a b' iha ihb=>
  intro b l h;show l∈Bf a++Bf b';by_cases hl: ∃l',a= .label l'
  ·obtain⟨l',rfl⟩:=hl
   have h:(bif Nat.beq l' l then some b' else BI b' l)=some b:=h;cases he:Nat.beq l' l with
   |true=>rw [<-bqE he];simp [Bf]
   |false=>rw [he]at h;exact List.mem_append_right _ (ihb h)
  ·rw [CF hl]at h;exact List.mem_append_right _ (ihb h)
 |_=>intro b l h;cases h
theorem Qy: ∀ {c b r:Code} {l i:Nat},(Bf c).Nodup->BI c l=some b->BI b i=some r->BI c i=some r:=by
 intro c
 induction c with
 |seq a b' iha ihb=>
  intro b r l i hn h1 h2;have hn:(Bf a++Bf b').Nodup:=hn;rw [List.nodup_append]at hn;by_cases hl: ∃l',a= .label l'
  ·obtain⟨k,rfl⟩:=hl
   have h1:(bif Nat.beq k l then some b' else BI b' l)=some b:=h1;have hi:BI b' i=some r:=by
    cases he:Nat.beq k l with
    |true=>rw [he]at h1;cases h1;exact h2
    |false=>rw [he]at h1;exact ihb hn.2.1 h1 h2
   have hne:k≠i:=hn.2.2 k (by simp [Bf]) i (Vg hi)
   show(bif Nat.beq k i then some b' else BI b' i)=_;rw [B6 hne];exact hi
  ·have e2:=CF (b:=b') hl
   rw [e2]at h1⊢;exact ihb hn.2.1 h1 h2
 |_=>intro b r l i _ h;cases h
theorem U9{P:Program}{E:AA}{C:Ctx}(hE:EOK P E.toEnv)(hm:P.follows .mixedOrders=true)(hkeep:C.m<=E.h.keep):JH P E C (Va E):=by
 intro c R s K z Q a w hs h hQ;unfold Va at h;cases hch:Jv c&&Nf (Bf c)with
 |false=>rw [hch]at h;cases h
 |true=>
 rw [hch]at h;rw [bAE]at hch;obtain⟨hch,hnd⟩:=hch;have hnd:=Nc hnd;have h:DK E c s (YS K) _=some z:=h
 let D:Nat->Nat->Act->World->Prop:=fun n l a w=>∃ (l0:Nat) (c1:Code) (L Rh:List Nat) (s1:St) (tys:List Ty) (x:(A9 tys).T),KA c=some l0/\BI c l0=some c1/\Hs (AD c1) L Rh s1=true/\Kp (Aq (AD c)) s s1/\C.m<=s1.r.length/\
  Cc (fun y:Nat×(A9 tys).T=>Ib E c (AD c1) L Rh s1 tys K y.1 y.2 (Bf c)) (l,x) (.ret z) n/\AT C E.h.n (A2 true (AD c1) L Rh s1 (ofX tys x)).den a w
 have claim: ∀n l a w,D n l a w->∃b,BI c l=some b/\b.wp P (fun e a' w'=>match e with
   | .goto l'=>∃n',n'<n/\D n' l' a' w'
   |e=>Q e a' w') a w:=by
  intro n
  induction n using Nat.strongRecOn with
  |_ n ih=>
  intro l a w hD;obtain⟨l0,c1,L,Rh,s1,tys,x,hf0,hr0,hok,hk1,hml,hT,hsr⟩:=hD
  have hround: ∃lo,Ib E c (AD c1) L Rh s1 tys K l x (Bf c)=some lo/\((∃y n',lo= .next y/\Cc (fun y:Nat×(A9 tys).T=>Ib E c (AD c1) L Rh s1 tys K y.1 y.2 (Bf c)) y (.ret z) n'/\n=n'+1)\/(lo= .ret z)):=by
   cases hT with
   |ret h'=>exact⟨_,h',.inr rfl⟩
   |step h' h2=>exact⟨_,h',.inl ⟨_,_,rfl,h2,rfl⟩⟩
  obtain⟨lo,hlo,hcase⟩:=hround;obtain⟨b,hb,hex⟩:=I0 _ hlo;refine⟨b,hb,?_⟩
  have hdst: ∀i,Aq (AD c1) i=true->Aq (AD b) i=true:=fun i hi=>by
   rcases N5 (c:=c) hf0 hr0 hb with⟨_,rfl⟩|h
   ·exact hi
   ·exact I1 c1 b l h hi
  have hgo: ∀ (l':Nat) (s':St) (a':Act) (w':World),Kp (Aq (AD b)) (A2 true (AD c1) L Rh s1 (ofX tys x)) s'->AT C E.h.n s'.den a' w'->Ua L Rh s1 E.h.keep tys l' s'=some lo->∃n',n'<n/\D n' l' a' w':=by
   intro l' s' a' w' hk hs' hx;unfold Ua at hx;split at hx
   case h_2=>cases hx
   rename_i cs2 hcs2;split at hx
   case h_2=>cases hx
   rename_i x2 hx2;cases hx;rcases hcase with⟨y,n',he,hT',hn'⟩|he
   ·cases he
    obtain⟨f1,f2,f3⟩:=Kw (hk.weak hdst);refine⟨n',by omega,l0,c1,L,Rh,s1,tys,x2,hf0,hr0,hok,hk1,hml,hT',?_⟩
    rw [Qe _ _ _ hx2];exact Jo hs' hcs2 hkeep hml f1 f2 f3
   ·cases he
  have hk0: ∀s',Kp (Aq (AD b)) (A2 true (AD c1) L Rh s1 (ofX tys x)) s'->Kp (Aq (AD c)) s s':=fun s' hk=>
   Kp.trans hk1 (Kp.trans (OD hok) hk (g:=Aq (AD c)) (fun i hi=>I1 c c1 l0 hr0 hi) fun i hi=>I1 c b l hb hi) (fun _ h=>h) fun _ h=>h
  refine Mt hE hm hkeep b _ _ _ lo _ a w hsr hex (fun e s' a' w' hk hs' hz=>?_) fun l' b' s' a' w' hk hs' hz _ h2=>?_
  ·have hret: ∀e',AM (K e' s')=some lo->Q e' a' w':=fun e' hz=>by
    obtain⟨z',h1,rfl⟩:=Vf hz;rcases hcase with⟨_,_,he,_⟩|he
    ·cases he
    ·cases he
     exact hQ _ _ _ _ (hk0 s' hk) hs' h1
   cases e with
   |goto l'=>exact hgo l' s' a' w' hk hs' hz
   |normal=>exact hret _ hz
   |exit id=>exact hret _ hz
   |ret=>exact hret _ hz
   |panic ch=>cases hz
   |outgrown=>cases hz
  ·obtain⟨n',hn',hD'⟩:=hgo l' s' a' w' hk hs' hz
   obtain⟨b2,hb2,hw2⟩:=ih n' hn' l' a' w' hD';rw [Qy hnd hb h2]at hb2;cases hb2;refine _root_.Go.wp_mono hw2 fun e a w hq=>?_
   cases e with
   |goto l2=>obtain⟨n2,h1,h2⟩:=hq;exact⟨n2,by omega,h2⟩
   |normal=>exact hq
   |exit id=>exact hq
   |ret=>exact hq
   |panic ch=>exact hq
   |outgrown=>exact hq
 have hlab: ∀n l a w,D n l a w->∃r,findLabel c l=some r:=fun n l a w hD=>by
  obtain⟨b,hb,_⟩:=claim n l a w hD;obtain⟨r,hr,_⟩:=Iy (P:=P) c b l hch hb;exact⟨r,hr⟩
 have hmin: ∀ (l:Nat) (a:Act) (w:World),∃k,(∃n,D n l a w)->D k l a w/\∀n,D n l a w->k<=n:=by
  intro l a w;by_cases hJ: ∃n,D n l a w
  ·obtain⟨k,hk,hlt⟩:=Aao hJ
   exact⟨k,fun _=>⟨hk,fun n hn=>Nat.le_of_not_lt fun hl=>hlt n hl hn⟩⟩
  ·exact⟨0,fun h=>absurd h hJ⟩
 refine K4 (fun l a w=>∃n,D n l a w) (fun l a w=>Classical.choose (hmin l a w)) ?_ ?_
 ·refine Mt hE hm hkeep c s _ _ z _ a w hs h (fun e s' a' w' hk hs' hz=>?_) fun l b s1 a' w' hk hs' hz h1 h2=>?_
  ·cases e with
   |goto l=>cases hz
   |normal=>exact hQ _ _ _ _ hk hs' hz
   |exit id=>exact hQ _ _ _ _ hk hs' hz
   |ret=>exact hQ _ _ _ _ hk hs' hz
   |panic ch=>exact hQ _ _ _ _ hk hs' hz
   |outgrown=>exact hQ _ _ _ _ hk hs' hz
  ·rw [h2]at hz
   generalize QT s1 E.lp (Bo c)=p at hz;obtain⟨L,Rh⟩:=p;simp only at hz;cases hok:Hs (AD b) L Rh s1 with
   |false=>rw [hok]at hz;cases hz
   |true=>
   rw [hok]at hz;simp only [cond_true]at hz;split at hz
   case h_2=>cases hz
   rename_i cs hcs;split at hz
   case h_2=>cases hz
   rename_i x hx;have hml:C.m<=s1.r.length:=by
    obtain⟨hd0,hdd0,D0,ρ0,F0,hcr0⟩:=id hs';have:=hcr0.ml;simpa [St.den]using this
   cases hl:Ag (fun y:Nat×(A9 (cs.map (·.t))).T=>Ib E c (AD b) L Rh s1 (cs.map (·.t)) K y.1 y.2 (Bf c)) (l,x)with
   |none=>rw [hl]at hz;cases hz
   |some o=>
   rw [hl]at hz;cases o with
   |next=>cases hz
   |brk=>cases hz
   |ret r=>
   cases hz;obtain⟨n,hn⟩:=Cd.1 hl;have hD:D n l a' w':=by
    refine⟨l,b,L,Rh,s1,_,x,h1,h2,hok,hk,hml,hn,?_⟩;rw [Qe _ _ _ hx];exact Jo hs' hcs hkeep hml (fun _ _ _ _=>rfl) (fun _ _ _=>⟨rfl,rfl⟩) fun _ _ _ _=>rfl
   obtain⟨b2,hb2,hw2⟩:=claim n l a' w' hD;rw [h2]at hb2;cases hb2;refine _root_.Go.wp_mono hw2 fun e a w hq=>?_
   cases e with
   |goto l2=>obtain⟨n2,h1,h2⟩:=hq;exact⟨hlab _ _ _ _ h2,n2,h2⟩
   |normal=>exact hq
   |exit id=>exact hq
   |ret=>exact hq
   |panic ch=>exact hq
   |outgrown=>exact hq
 ·intro l r a w hf hJ
  obtain⟨hD,_⟩:=Classical.choose_spec (hmin l a w) hJ;obtain⟨b,hb,hw⟩:=claim _ l a w hD;obtain⟨r',hr',hrw⟩:=Iy c b l hch hb;rw [hf]at hr';cases hr';refine hrw _ _ _ (_root_.Go.wp_mono hw fun e a' w' hq=>?_)
  cases e with
  |goto l2=>
   obtain⟨n2,h1,h2⟩:=hq;refine⟨hlab _ _ _ _ h2,⟨n2,h2⟩,?_⟩;have:=(Classical.choose_spec (hmin l2 a' w') ⟨n2,h2⟩).2 n2 h2;show Classical.choose (hmin l2 a' w')<Classical.choose (hmin l a w);omega
  |normal=>exact hq
  |exit id=>exact hq
  |ret=>exact hq
  |panic ch=>exact hq
  |outgrown=>exact hq
theorem O8{P:Program}{E:AA}{C:Ctx}(hE:EOK P E.toEnv)(hm:P.follows .mixedOrders=true)(hkeep:C.m<=E.h.keep)(c:Code){R:Type}(s:St)(K:Exit->St->Option R)(z:R)(Q:Exit->Act->World->Prop)(a:Act)(w:World)(hs:AT C E.h.n s.den a w)(h:Zo E c s K=some z)
  (hQ: ∀e s' a' w',Kp (Aq (AD c)) s s'->AT C E.h.n s'.den a' w'->K e s'=some z->Q e a' w'):c.wp P Q a w:=
 Mu hE hm hkeep (U9 hE hm hkeep) c s K z Q a w hs h hQ
end Go.Ve

