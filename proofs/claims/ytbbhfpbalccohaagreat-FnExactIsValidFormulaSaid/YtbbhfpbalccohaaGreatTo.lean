/- The typed machine over code: what a body computes, as a function; that it does. -/
import Derived.Test.YtbbhfpbalccohaaGreatTn
namespace Go.Ve
inductive LO(X R:Type) where
 |next (x:X)
 |brk (id:Nat) (x:X)
 |ret (r:R)
inductive Cf{X R:Type}(f:X->Option (LO X R)):X->LO X R->Nat->Prop where
 |brk {x y:X} {id:Nat}:f x=some (.brk id y)->Cf f x (.brk id y) 0
 |ret {x:X} {r:R}:f x=some (.ret r)->Cf f x (.ret r) 0
 |step {x y:X} {o:LO X R} {n:Nat}:f x=some (.next y)->Cf f y o n->Cf f x o (n+1)
noncomputable def Am{X R:Type}(f:X->Option (LO X R))(x:X):Option (LO X R):=@dite _ (∃o n,Cf f x o n) (Classical.propDecidable _) (fun h=>some (Classical.choose h)) fun _=>none
theorem Cf.det{X R:Type}{f:X->Option (LO X R)}: ∀ {x:X} {o o':LO X R} {n n':Nat},Cf f x o n->Cf f x o' n'->o=o'/\n=n':=by
 intro x o o' n n' h
 induction h generalizing o' n' with
 |brk h=>intro h';cases h' with
  |brk h'=>rw [h]at h';cases h';exact⟨rfl,rfl⟩
  |ret h'=>rw [h]at h';cases h'
  |step h' _=>rw [h]at h';cases h'
 |ret h=>intro h';cases h' with
  |brk h'=>rw [h]at h';cases h'
  |ret h'=>rw [h]at h';cases h';exact⟨rfl,rfl⟩
  |step h' _=>rw [h]at h';cases h'
 |step h _ ih=>intro h';cases h' with
  |brk h'=>rw [h]at h';cases h'
  |ret h'=>rw [h]at h';cases h'
  |step h' h2=>rw [h]at h';cases h';obtain⟨rfl,rfl⟩:=ih h2;exact⟨rfl,rfl⟩
theorem Cg{X R:Type}{f:X->Option (LO X R)}{x:X}{o:LO X R}:Am f x=some o↔ ∃n,Cf f x o n:=by
 unfold Am;split
 ·rename_i h
  obtain⟨n,hn⟩:=Classical.choose_spec h;constructor
  ·intro e;cases e;exact⟨n,hn⟩
  ·rintro ⟨n',h'⟩;rw [(hn.det h').1]
 ·rename_i h
  constructor
  ·intro e;cases e
  ·rintro ⟨n,hn⟩;exact absurd ⟨o,n,hn⟩ h
theorem Br{X R:Type}(f:X->Option (LO X R))(x:X):Am f x=(f x).bind fun o=>match o with
  | .next y=>Am f y
  | .brk id y=>some (.brk id y)
  | .ret r=>some (.ret r):=by
 cases hf:f x with
 |none=>
  show Am f x=none;cases h:Am f x with
  |none=>rfl
  |some o=>
   obtain⟨n,hn⟩:=Cg.1 h;cases hn with
   |brk h'=>rw [hf]at h';cases h'
   |ret h'=>rw [hf]at h';cases h'
   |step h' _=>rw [hf]at h';cases h'
 |some o=>
  cases o with
  |brk id y=>exact Cg.2 ⟨0,.brk hf⟩
  |ret r=>exact Cg.2 ⟨0,.ret hf⟩
  |next y=>
   show Am f x=Am f y;cases h:Am f y with
   |some o=>obtain⟨n,hn⟩:=Cg.1 h;exact Cg.2 ⟨n+1,.step hf hn⟩
   |none=>
    cases h2:Am f x with
    |none=>rfl
    |some o=>
     obtain⟨n,hn⟩:=Cg.1 h2;cases hn with
     |brk h'=>rw [hf]at h';cases h'
     |ret h'=>rw [hf]at h';cases h'
     |step h' h3=>rw [hf]at h';cases h';rw [Cg.2 ⟨_,h3⟩]at h;cases h
def Bd:List Ty->Ty
 | []=>.unit
 | [t]=>t
 |t::u::l=>.pair t (Bd (u::l))
def Wn(t:Ty)(y:Dy):Option t.T:=if h:y.t=t then some (h▸y.x)else none
def toX:(tys:List Ty)->List Dy->Option (Bd tys).T
 | [],[]=>some ()
 | [t],[y]=>Wn t y
 |t::u::l,y::ys=>match Wn t y with
  |some x=>match toX (u::l) ys with
   |some z=>some (x,z)
   |none=>none
  |none=>none
 |_,_=>none
def ofX:(tys:List Ty)->(Bd tys).T->List Dy
 | [],_=>[]
 | [t],x=>[⟨t,x⟩]
 |t::u::l,x=>⟨t,x.1⟩::ofX (u::l) x.2
theorem Wm{t:Ty}{y:Dy}{x:t.T}(h:Wn t y=some x):(⟨t,x⟩:Dy)=y:=by
 unfold Wn at h;split at h
 ·rename_i ht;subst ht;cases h;rfl
 ·cases h
theorem P7: ∀ (tys:List Ty) (cs:List Dy) (x:(Bd tys).T),toX tys cs=some x->ofX tys x=cs
 | [],[],x,h=>rfl
 | [t],[y],x,h=>by show [(⟨t,x⟩:Dy)]= [y];rw [Wm h]
 |t::u::l,y::ys,x,h=>by
  have h:(match Wn t y with
   |some x=>match toX (u::l) ys with
    |some z=>some (x,z)
    |none=>none
   |none=>none:Option (Bd (t::u::l)).T)=some x:=h
  split at h
  case h_2=>cases h
  rename_i x1 h1;split at h
  case h_2=>cases h
  rename_i z h2;cases h;show(⟨t,x1⟩:Dy)::ofX (u::l) z=_;rw [Wm h1,P7 (u::l) ys z h2]
 | [],_::_,_,h=>by cases h
 | [_],[],_,h=>by cases h
 | [_],_::_::_,_,h=>by cases h
 |_::_::_,[],_,h=>by cases h
structure AF extends Env where
 lp:List (Nat×List Nat×List Nat)
 dn:List (Nat×Nat)
def Bt:Code->Nat
 | .region id _ _=>id
 | .seq a b=>match a with
  | .skip=>Bt b
  | .label _=>Bt b
  |a=>Bt a
 | .block _ b=>Bt b
 | .loop b=>Bt b
 | .scope b=>Bt b
 |_=>0
def AJ:Code->List Oper
 | .region _ ops _=>ops.toList
 | .seq a b=>AJ a++AJ b
 | .cond _ a b=>AJ a++AJ b
 | .block _ b=>AJ b
 | .loop b=>AJ b
 | .scope b=>AJ b
 |_=>[]
def Nj:Code->List Nat
 | .exit id=>[id]
 | .seq a b=>Nj a++Nj b
 | .cond _ a b=>Nj a++Nj b
 | .block id b=>(Nj b).filter fun i=>!Nat.beq i id
 | .loop b=>Nj b
 |_=>[]
def lookN{α:Type}(d:α):List (Nat×α)->Nat->α
 | [],_=>d
 |(i,x)::l,k=>bif Nat.beq i k then x else lookN d l k
def clId:Cl->List Nat
 | .rf id _=>[id]
 | .rp id _ _ _=>[id]
 | .rs id _ _ _=>[id]
 |_=>[]
def slId:Sl->List Nat
 | .one c=>clId c
 |_=>[]
def condN(s:St)(c:Nat):Bool:=bif Nat.ble 2000000 c then(match slId (s.t (c-2000000))with
 | []=>true
 |_=>false)else bif Nat.ble 1000000 c then(slId (s.t ((c-1000000)/1000))).any fun i=>Nat.beq i ((c-1000000) % 1000)else true
def QJ(s:St):List (Nat×List Nat×List Nat)->Nat->List Nat×List Nat
 | [],_=>([],[])
 |(i,L,R)::l,k=>bif Nat.beq i k then(bif R.all (condN s)then(L,R.filter fun c=>!Nat.ble 1000000 c)else QJ s l k)else QJ s l k
def VU(o:Oper):Bool:=match o.op with
 | .store _ _ _=>true
 |_=>false
def Z7(o:Oper):Bool:=match o.op with
 | .build _ _=>true
 | .buildSlice _ _ _=>true
 |_=>VU o
def VW(E:Env)(o:Oper):Bool:=VU o||match VG E o with
 |some (.app _ _ _ _)=>true
 |some (.cw _ _ _)=>true
 |_=>false
def Ut:List Oper->Nat
 | []=>0
 |o::l=>match o.op with
  | .assign _=>Ut l+1
  |_=>0
def isNew(ops:Array Oper)(y:Nat):Bool:=ops.toList.any fun o=>match o.op,o.dst with
 | .alloc _,some d=>Nat.beq d y
 |_,_=>false
def isMade(ops:Array Oper)(y:Nat):Bool:=ops.toList.any fun o=>match o.dst with
 |some d=>Nat.beq d y&&(match o.op with
  | .buildSlice _ _ _=>true
  | .makeSlice _ _ _=>true
  |op=>(Wu op).isSome)
 |none=>false
def isLate(E:Env)(ops:Array Oper)(o:Oper):Bool:=match o.op with
 | .store _ (.tmp y) _=>!isNew ops y
 | .store _ _ _=>true
 |_=>match Wu o.op with
  |some (_,.tmp y,_)=>!isMade ops y
  |some _=>true
  |none=>VW E o
def headD(E:Env)(ops:Array Oper):Nat:=bif ops.toList.any (VW E)then ops.toList.findIdx (fun o=>Z7 o||VW E o)else
 bif DS ops (ops.size-Ut ops.toList.reverse)then ops.size-Ut ops.toList.reverse else ops.size
def headN(E:AF)(id:Nat)(ops:Array Oper):Nat:=lookN (bif DS ops (headD E.toEnv ops)then headD E.toEnv ops else ops.toList.findIdx (isLate E.toEnv ops)) E.dn id
def brkK{R:Type}(K:Exit->St->Option R):List Nat->Nat->St->Option R
 | [],_,_=>none
 |i::l,id,s=>nif id i (K (.exit i) s) (brkK K l id s)
@[reducible] def AV {X R:Type} (o:Option R):Option (LO X R):=o.map .ret
@[reducible] def LO.fin {X R:Type} (f:Nat->X->Option R):LO X R->Option R
 | .brk id x=>f id x
 | .ret r=>some r
 | .next _=>none
def QU{R:Type}(L Rh:List Nat)(s:St)(keep:Nat)(tys:List Ty)(K:Exit->St->Option R)(e:Exit)(s':St):Option (LO (Bd tys).T R):=match e with
 | .normal=>match XR L Rh s s' keep with
  |some cs=>match toX tys cs with
   |some x=>some (.next x)
   |none=>none
  |none=>none
 | .exit id=>match XR L Rh s s' keep with
  |some cs=>match toX tys cs with
   |some x=>some (.brk id x)
   |none=>none
  |none=>none
 | .ret=>AV (K .ret s')
 |_=>none
def XX{R:Type}(b:Code)(L Rh:List Nat)(s:St)(tys:List Ty)(K:Exit->St->Option R):LO (Bd tys).T R->Option R:=
 LO.fin fun id x=>brkK K (Nj b).eraseDups id (A7 false (AJ b) L Rh s (ofX tys x))
def Hq(b:List Oper)(L Rh:List Nat)(s:St):Bool:=L.all (fun d=>!(Ax b d&&(s.t d).stay))&&Rh.all fun i=>!(s.r.getD i .dead).isRo
def Lw:List Nat->St->St
 | [],s=>s
 |id::l,s=>match s.r.getD id .dead with
  | .arr false (.sl u) d xs=>bif Nat.beq u.dep 0 then Lw l ⟨s.t,s.r.set id (.arr false (.osl u) d (Ma xs))⟩else Lw l s
  |_=>Lw l s
def ozOf:List (Nat×Nat)->Nat->List Nat
 | [],_=>[]
 |(a,b)::l,k=>bif Nat.beq a (k+1000000)then b::ozOf l k else ozOf l k
theorem I9: ∀ (u:Ty) (d:Nat) (x:u.T),u.dep=0->∀c∈AA u d x,∀ro,c.node ro= .dead
 | .int _,_,_,_,c,h,_=>by rw [List.mem_singleton.1 h];rfl
 | .bool,_,_,_,c,h,_=>by rw [List.mem_singleton.1 h];rfl
 | .str,_,_,_,c,h,_=>by rw [List.mem_singleton.1 h];rfl
 | .unit,_,_,_,c,h,_=>by cases h
 | .pair a b,d,x,hd,c,h,ro=>by
  simp only [Ty.dep]at hd;rcases List.mem_append.1 h with h|h
  ·exact I9 a d x.1 (by omega) c h ro
  ·exact I9 b d x.2 (by omega) c h ro
 | .sl _,_,_,h,_,_,_=>by simp [Ty.dep]at h
 | .ptr _,_,_,h,_,_,_=>by simp [Ty.dep]at h
 | .clo _ _,_,_,h,_,_,_=>by simp [Ty.dep]at h
 | .osl _,_,_,h,_,_,_=>by simp [Ty.dep]at h
theorem Pv{α:Type}(xs:List (List α))(i:Nat):(Ma xs).getD i (some [])=some (xs.getD i []):=by
 unfold Ma;simp only [gDE,List.getElem?_map];cases xs[i]? <;>rfl
theorem ZL{u:Ty}{d:Nat}{xs:List (List u.T)}:(Ah.arr false (.osl u) d (Ma xs)).v=(Ah.arr false (.sl u) d xs).v:=by
 show arr true 1 (tyV (.osl u) d) (some []) (Ma xs)=arr true 1 (tyV (.sl u) d) [] xs;unfold arr;have hl:(Ma xs).length=xs.length:=by simp [Ma]
 rw [hl]
 congr 1
 funext i k
 rw [Pv];rfl
theorem Vw{u:Ty}{d:Nat}{xs:List (List u.T)}(hu:u.dep=0): ∀q:AU,((Ah.arr false (.osl u) d (Ma xs)).at' q).len=((Ah.arr false (.sl u) d xs).at' q).len
 | []=>by show(Ma xs).length=xs.length;simp [Ma]
 |(i,0)::q=>by
  show(((Cl.c (.osl u) d ((Ma xs).getD i (some []))).node false).at' q).len=(((Cl.c (.sl u) d (xs.getD i [])).node false).at' q).len;rw [Pv];cases d with
  |zero=>rfl
  |succ d=>
   cases q with
   |nil=>rfl
   |cons a q=>
    obtain⟨i2,k2⟩:=a;show(((([]:List Cl).getD k2 .dead).node false).at' q).len=((((AA u d ((xs.getD i []).getD i2 u.dflt)).getD k2 .dead).node false).at' q).len
    have e:((AA u d ((xs.getD i []).getD i2 u.dflt)).getD k2 .dead).node false= .dead:=by
     by_cases hk:k2<(AA u d ((xs.getD i []).getD i2 u.dflt)).length
     ·rw [gDE,gEE hk]
      exact I9 u d _ hu _ (List.getElem_mem hk) _
     ·rw [gDE,List.getElem?_eq_none (by omega)];rfl
    rw [e];rfl
 |(i,k+1)::q=>by
  have e1:(Ah.arr false (.osl u) d (Ma xs)).at' ((i,k+1)::q)= .dead:=Ct q;have e2:(Ah.arr false (.sl u) d xs).at' ((i,k+1)::q)= .dead:=Ct q;rw [e1,e2]
theorem Cl.v_lens{r r':List Ah}(h: ∀id q,(Aj r' id q).len=(Aj r id q).len)(y:Cl):y.v r'=y.v r:=by
 cases y with
 |rf id p=>show V.rs id p 0 _=V.rs id p 0 _;rw [h]
 |_=>rfl
theorem Sl.v_lens{r r':List Ah}(h: ∀id q,(Aj r' id q).len=(Aj r id q).len)(y:Sl):y.v r'=y.v r:=by
 have e:Cl.v r'=Cl.v r:=funext fun c=>Cl.v_lens h c
 cases y with
 |one c=>exact Cl.v_lens h c
 |new l=>rfl
 |agg l=>show Al _=Al _;rw [e]
 |tup l=>show CT _=CT _;rw [e]
 |pk t l=>show pkL t _=pkL t _;rw [e]
theorem Hm: ∀ (l:List Nat) (s:St),(Lw l s).den=s.den/\∀g,Kp g s (Lw l s)
 | [],s=>⟨rfl,fun g=>Kp.refl _ _⟩
 |id::l,s=>by
  unfold Lw;split
  ·rename_i u d xs hr
   cases hb:Nat.beq u.dep 0 with
   |false=>exact Hm l s
   |true=>
    have hu:=Nat.eq_of_beq_eq_true hb;obtain⟨h1,h2⟩:=Hm l ⟨s.t,s.r.set id (.arr false (.osl u) d (Ma xs))⟩;have hid:id<s.r.length:=by
     rcases Nat.lt_or_ge id s.r.length with h|h
     ·exact h
     ·rw [gDE,List.getElem?_eq_none h]at hr;cases hr
    have hn: ∀id' q,(Aj (s.r.set id (.arr false (.osl u) d (Ma xs))) id' q).len=(Aj s.r id' q).len:=by
     intro id' q;by_cases he:id'=id
     ·subst he
      unfold Aj;have e:(s.r.set id' (.arr false (.osl u) d (Ma xs))).getD id' .dead= .arr false (.osl u) d (Ma xs):=by simp [hid]
      rw [e,hr];exact Vw hu q
     ·rw [BL he]
    have hσ:(s.r.set id (.arr false (.osl u) d (Ma xs))).map Ah.v=s.r.map Ah.v:=by
     rw [List.map_set,ZL,<-hr];apply List.ext_getElem?;intro i;rw [List.getElem?_set];split
     ·rename_i e
      subst e;simp [hid]
     ·rfl
    refine⟨?_,fun g=>?_⟩
    ·show(Lw l _).den=_
     rw [h1];unfold St.den;simp only [hσ]
     congr 1
     funext i
     exact Sl.v_lens hn _
    ·refine Kp.trans (s1:=⟨s.t,s.r.set id (.arr false (.osl u) d (Ma xs))⟩) (g1:=g) (g2:=g) ⟨fun i _ _=>rfl,fun id' _ hro=>?_,by simp⟩ (h2 g) (fun _ h=>h) fun _ h=>h
     have hne:id≠id':=by
      rintro rfl
      rw [hr]at hro;cases hro
     simp only [gDE,List.getElem?_set_ne hne]
  ·exact Hm l s
noncomputable def BE(H:Code->{R:Type}->St->(Exit->St->Option R)->Option R)(E:AF):Code->{R:Type}->St->(Exit->St->Option R)->Option R
 | .skip,_,s,K=>K .normal s
 | .region _ ops false,_,s,K=>WL E.toEnv ops (Ui ops.size ops.toList) s (K .normal)
 | .region id ops true,_,s,K=>Y6 E.toEnv (headN E id ops) ops s (K .normal)
 | .seq a b,_,s,K=>BE H E a s fun e s'=>match e with
  | .normal=>BE H E b s' K
  | .exit id=>K (.exit id) s'
  | .ret=>K .ret s'
  | .goto l=>K (.goto l) s'
  |_=>none
 | .cond c x y,_,s,K=>match s.ev c with
  |some (.one (.c .bool _ b))=>Wp b (BE H E x s K) (BE H E y s K)
  |_=>none
 | .block id b,_,s,K=>BE H E b s fun e s'=>match e with
  | .exit i=>bif Nat.beq i id then K .normal s' else K (.exit i) s'
  | .normal=>K .normal s'
  | .ret=>K .ret s'
  | .goto l=>K (.goto l) s'
  |_=>none
 | .loop b,R,s0,K=>match Lw (ozOf E.dn (Bt b)) s0 with
  |s=>match QJ s E.lp (Bt b)with
  |(L,Rh)=>bif Hq (AJ b) L Rh s then(match XR L Rh s s E.h.keep with
   |some cs=>match toX (cs.map (·.t)) cs with
    |some x=>I7 (Am (fun x=>BE H E b (A7 true (AJ b) L Rh s (ofX (cs.map (·.t)) x)) (QU L Rh s E.h.keep (cs.map (·.t)) K)) x) (XX b L Rh s (cs.map (·.t)) K)
    |none=>none
   |none=>none)else none
 | .exit id,_,s,K=>K (.exit id) s
 | .label _,_,s,K=>K .normal s
 | .goto l,_,s,K=>K (.goto l) s
 | .ret,_,s,K=>K .ret s
 | .scope c,_,s,K=>H c s K
 |_,_,_,_=>none
def Bk:Code->List Nat
 | .seq a b=>Bk a++Bk b
 | .label l=>[l]
 |_=>[]
def BK:Code->Nat->Option Code
 | .seq a b,l=>match a with
  | .label l'=>bif Nat.beq l' l then some b else BK b l
  |_=>BK b l
 |_,_=>none
def M1:List Nat->Bool
 | []=>true
 |a::l=>!l.contains a&&M1 l
theorem M0: ∀ {l:List Nat},M1 l=true->l.Nodup
 | [],_=>List.nodup_nil
 |a::l,h=>by
  have h:(!l.contains a&&M1 l)=true:=h;rw [bAE,Bool.not_eq_true']at h;exact List.nodup_cons.2 ⟨fun hm=>by rw [List.contains_eq_mem,decide_eq_false_iff_not]at h;exact h.1 hm,M0 h.2⟩
def Ot:Code->Bool
 | .label _=>true
 |_=>false
def Ju:Code->Bool
 | .seq a b=>(Ot a||(Bk a).isEmpty)&&Ju b
 |c=>(Bk c).isEmpty
@[reducible] def LO.fin1 {X R:Type}:LO X R->Option R
 | .ret r=>some r
 |_=>none
def Q3{R:Type}(L Rh:List Nat)(s:St)(keep:Nat)(tys:List Ty)(l:Nat)(s':St):Option (LO (Nat×(Bd tys).T) R):=match XR L Rh s s' keep with
 |some cs=>match toX tys cs with
  |some x=>some (.next (l,x))
  |none=>none
 |none=>none
def Aad{R:Type}(L Rh:List Nat)(s:St)(keep:Nat)(tys:List Ty)(K:Exit->St->Option R)(e:Exit)(s':St):Option (LO (Nat×(Bd tys).T) R):=match e with
 | .goto l=>Q3 L Rh s keep tys l s'
 | .normal=>AV (K .normal s')
 | .exit id=>AV (K (.exit id) s')
 | .ret=>AV (K .ret s')
 |_=>none
noncomputable def DL(E:AF):Code->{R:Type}->St->(Exit->St->Option R)->(Nat->St->Option R)->Option R
 | .seq a b,_,s,K,KL=>match a with
  | .label l=>KL l s
  |a=>BE (fun _ _ _ _=>none) E a s fun e s'=>match e with
   | .normal=>DL E b s' K KL
   | .exit id=>K (.exit id) s'
   | .ret=>K .ret s'
   | .goto l=>K (.goto l) s'
   |_=>none
 |c,_,s,K,_=>BE (fun _ _ _ _=>none) E c s K
noncomputable def Ic(E:AF)(c:Code)(ops:List Oper)(L Rh:List Nat)(s:St)(tys:List Ty){R:Type}(K:Exit->St->Option R)(l:Nat)(x:(Bd tys).T):List Nat->Option (LO (Nat×(Bd tys).T) R)
 | []=>none
 |i::ls=>nif l i (match BK c i with
  |some rest=>DL E rest (A7 true ops L Rh s (ofX tys x)) (Aad L Rh s E.h.keep tys K) (Q3 L Rh s E.h.keep tys)
  |none=>none) (Ic E c ops L Rh s tys K l x ls)
def YA{R:Type}(K:Exit->St->Option R)(e:Exit)(s:St):Option R:=match e with
 | .goto _=>none
 |e=>K e s
noncomputable def U1(E:AF)(c:Code){R:Type}(s:St)(K:Exit->St->Option R):Option R:=bif Ju c&&M1 (Bk c)then DL E c s (YA K) fun l s1=>match BK c l with
  |some c1=>match QJ s1 E.lp (Bt c)with
   |(L,Rh)=>bif Hq (AJ c1) L Rh s1 then(match XR L Rh s1 s1 E.h.keep with
    |some cs=>match toX (cs.map (·.t)) cs with
     |some x=>I7 (Am (fun y=>Ic E c (AJ c1) L Rh s1 (cs.map (·.t)) K y.1 y.2 (Bk c)) (l,x)) LO.fin1
     |none=>none
    |none=>none)else none
  |none=>none else none
noncomputable def Y5(E:AF):Code->{R:Type}->St->(Exit->St->Option R)->Option R:=BE (U1 E) E
theorem Jo{t0:Nat->Sl}: ∀ (L:List Nat) (cs:List Dy) (t:Nat->Sl) (i:Nat),L.contains i=false->(JQ t0 L cs t).1 i=t i
 | [],cs,t,i,_=>rfl
 |d::L,cs,t,i,h=>by
  rw [List.contains_cons,Bool.or_eq_false_iff]at h;unfold JQ;rw [Jo L _ _ i h.2];have hne:i≠d:=by
   intro e;subst e;simp at h
  exact Bw hne
theorem Hy{r0:List Ah}: ∀ (Rh:List Nat) (cs:List Dy) (r:List Ah) (i:Nat),Rh.contains i=false->(DZ r0 Rh cs r).getD i .dead=r.getD i .dead
 | [],cs,r,i,_=>rfl
 |d::L,cs,r,i,h=>by
  rw [List.contains_cons,Bool.or_eq_false_iff]at h;unfold DZ;rw [Hy L _ _ i h.2];have hne:d≠i:=by
   intro e;subst e;simp at h
  simp only [gDE,List.getElem?_set_ne hne]
theorem Hx{r0:List Ah}: ∀ (Rh:List Nat) (cs:List Dy) (r:List Ah),(DZ r0 Rh cs r).length=r.length
 | [],cs,r=>rfl
 |d::L,cs,r=>by unfold DZ;rw [Hx L,List.length_set]
theorem Ow{ro:Bool}{b:List Oper}{L Rh:List Nat}{s:St}{cs:List Dy}(h:Hq b L Rh s=true):Kp (Ax b) s (A7 ro b L Rh s cs):=by
 unfold Hq at h;rw [bAE]at h;refine⟨fun i hi hs=>?_,fun id hl hid=>?_,?_⟩
 ·have hc:L.contains i=false:=by
   cases hc:L.contains i with
   |false=>rfl
   |true=>
    have:=aET.1 h.1 i (by simpa using hc)
    rw [hi,hs]at this;cases this
  show(JQ s.t L cs _).1 i=_;rw [Jo L _ _ i hc];show(bif Ax b i&&(s.t i).stay then s.t i else _)=_;rw [hi,hs];rfl
 ·have hc:Rh.contains id=false:=by
   cases hc:Rh.contains id with
   |false=>rfl
   |true=>
    have:=aET.1 h.2 id (by simpa using hc)
    rw [hid]at this;cases this
  show(DZ s.r Rh _ (bif ro then s.r.map Bz else s.r)).getD id .dead=_;rw [Hy Rh _ _ id hc];cases ro with
  |false=>rfl
  |true=>
   show(s.r.map Bz).getD id .dead=_
   have e:(s.r.map Bz).getD id .dead=Bz (s.r.getD id .dead):=by
    simp only [gDE,List.getElem?_map];cases s.r[id]? <;>rfl
   rw [e];generalize s.r.getD id .dead=x at hid;cases x with
   |dead=>rfl
   |obj ro l=>have hid:ro=true:=hid;subst hid;rfl
   |arr ro t d xs=>have hid:ro=true:=hid;subst hid;rfl
   |opt ro t d xs=>have hid:ro=true:=hid;subst hid;rfl
 ·show s.r.length<=(DZ s.r Rh _ (bif ro then s.r.map Bz else s.r)).length
  rw [Hx];cases ro<;>simp
theorem Ko{b:List Oper}{L Rh:List Nat}{s s':St}{cs:List Dy}(hk:Kp (Ax b) (A7 true b L Rh s cs) s'):
  (∀i,L.contains i=false->Ax b i=true->(s.t i).stay=true->s'.t i=s.t i)/\
  (∀id,id<s.r.length->Rh.contains id=false->(s'.r.getD id .dead).v=(s.r.getD id .dead).v/\(s'.r.getD id .dead).len=(s.r.getD id .dead).len)/\
  (∀id,id<s.r.length->Rh.contains id=false->∀q:AU,((s'.r.getD id .dead).at' q).len=((s.r.getD id .dead).at' q).len):=by
 have hR: ∀id,id<s.r.length->Rh.contains id=false->s'.r.getD id .dead=Bz (s.r.getD id .dead):=fun id hl hc=>by
  have e:(A7 true b L Rh s cs).r.getD id .dead=Bz (s.r.getD id .dead):=by
   show(DZ s.r Rh _ (s.r.map Bz)).getD id .dead=_;rw [Hy Rh _ _ id hc];simp only [gDE,List.getElem?_map];cases s.r[id]? <;>rfl
  have hro:(Bz (s.r.getD id .dead)).isRo=true:=by cases s.r.getD id .dead<;>rfl
  have hlen:(A7 true b L Rh s cs).r.length=s.r.length:=by
   show(DZ s.r Rh _ (s.r.map Bz)).length=_;rw [Hx,List.length_map]
  rw [hk.r id (by rw [hlen];exact hl) (by rw [e];exact hro),e]
 refine⟨fun i hc hi hs=>?_,fun id hl hc=>?_,fun id hl hc q=>by rw [hR id hl hc];exact X8 q _ _ (IV _)⟩
 ·have e:(A7 true b L Rh s cs).t i=s.t i:=by
   show(JQ s.t L cs _).1 i=_;rw [Jo L _ _ i hc];show(bif Ax b i&&(s.t i).stay then s.t i else _)=_;rw [hi,hs];rfl
  rw [hk.t i hi (by rw [e];exact hs),e]
 ·have e:(A7 true b L Rh s cs).r.getD id .dead=Bz (s.r.getD id .dead):=by
   show(DZ s.r Rh _ (s.r.map Bz)).getD id .dead=_;rw [Hy Rh _ _ id hc];simp only [gDE,List.getElem?_map];cases s.r[id]? <;>rfl
  have hro:(Bz (s.r.getD id .dead)).isRo=true:=by cases s.r.getD id .dead<;>rfl
  have hlen:(A7 true b L Rh s cs).r.length=s.r.length:=by
   show(DZ s.r Rh _ (s.r.map Bz)).length=_;rw [Hx,List.length_map]
  rw [hk.r id (by rw [hlen];exact hl) (by rw [e];exact hro),e]
  exact Ld _
theorem Nv{R:Type}{K:Exit->St->Option R}{z:R}{s:St}: ∀ (l:List Nat) (id:Nat),brkK K l id s=some z->K (.exit id) s=some z
 | [],id,h=>by cases h
 |i::l,id,h=>by
  have h:(if id=i then K (.exit i) s else brkK K l id s)=some z:=h
  split at h
  ·rename_i e;subst e;exact h
  ·exact Nv l id h
theorem ZS{P:Program}{H:Code->{R:Type}->St->(Exit->St->Option R)->Option R}{E:AF}{C:Ctx}(hkeep:C.m<=E.h.keep){b:Code}
  (ih: ∀ {R:Type} (s:St) (K:Exit->St->Option R) (z:R) (Q:Exit->Act->World->Prop) (a:Act) (w:World),AY C E.h.n s.den a w->BE H E b s K=some z->(∀e s' a' w',Kp (Ax (AJ b)) s s'->AY C E.h.n s'.den a' w'->K e s'=some z->Q e a' w')->b.wp P Q a w)
  {R:Type} {s:St} {K:Exit->St->Option R} {z:R} {Q:Exit->Act->World->Prop} {a:Act} {w:World} (hs:AY C E.h.n s.den a w) {L Rh:List Nat} (hok:Hq (AJ b) L Rh s=true) {tys:List Ty} {cs:List Dy} (hcs:XR L Rh s s E.h.keep=some cs) {x0:(Bd tys).T} (hx0':ofX tys x0=cs)
  (h:(Am (fun x=>BE H E b (A7 true (AJ b) L Rh s (ofX tys x)) (QU L Rh s E.h.keep tys K)) x0).bind (XX b L Rh s tys K)=some z)
  (hQ: ∀e s' a' w',Kp (Ax (AJ b)) s s'->AY C E.h.n s'.den a' w'->K e s'=some z->Q e a' w'):(Code.loop b).wp P Q a w:=by
 obtain⟨hd0,hdd0,D0,ρ0,F0,hcr0⟩:=id hs;have hml:C.m<=s.r.length:=by have:=hcr0.ml;simpa [St.den]using this
 let body:(Bd tys).T->Option (LO (Bd tys).T R):=fun x=>BE H E b (A7 true (AJ b) L Rh s (ofX tys x)) (QU L Rh s E.h.keep tys K)
 have h:(Am body x0).bind (XX b L Rh s tys K)=some z:=h;cases hl:Am body x0 with
 |none=>rw [hl]at h;cases h
 |some o0=>
  rw [hl]at h;have h:XX b L Rh s tys K o0=some z:=h;obtain⟨n0,hn0⟩:=Cg.1 hl
  have h0:AY C E.h.n (A7 true (AJ b) L Rh s (ofX tys x0)).den a w:=by
   rw [hx0'];exact Jn hs hcs hkeep hml (fun _ _ _ _=>rfl) (fun _ _ _=>⟨rfl,rfl⟩) fun _ _ _ _=>rfl
  let I':Act->World->Prop:=fun a w=>∃x n o,Cf body x o n/\XX b L Rh s tys K o=some z/\AY C E.h.n (A7 true (AJ b) L Rh s (ofX tys x)).den a w
  have hmin: ∀ (a:Act) (w:World),∃k,I' a w->(∃x n o,Cf body x o n/\XX b L Rh s tys K o=some z/\AY C E.h.n (A7 true (AJ b) L Rh s (ofX tys x)).den a w/\n=k)/\∀x n o,Cf body x o n->XX b L Rh s tys K o=some z->AY C E.h.n (A7 true (AJ b) L Rh s (ofX tys x)).den a w->k<=n:=by
   intro a w;by_cases hI:I' a w
   ·obtain⟨x,n,o,g1,g2,g3⟩:=hI
    obtain⟨k,hk,hlt⟩:=Z1 (p:=fun k=>∃x n o,Cf body x o n/\XX b L Rh s tys K o=some z/\AY C E.h.n (A7 true (AJ b) L Rh s (ofX tys x)).den a w/\n=k) ⟨n,x,n,o,g1,g2,g3,rfl⟩
    exact⟨k,fun _=>⟨hk,fun x n o g1 g2 g3=>Nat.le_of_not_lt fun hl=>hlt n hl ⟨x,n,o,g1,g2,g3,rfl⟩⟩⟩
   ·exact⟨0,fun h=>absurd h hI⟩
  let μ':Act->World->Nat:=fun a w=>Classical.choose (hmin a w)
  have hμ':=fun a w hI=>Classical.choose_spec (hmin a w) hI
  refine wp_loop I' μ' ⟨x0,n0,o0,hn0,h,h0⟩ fun a w hI=>?_
  obtain⟨⟨x,n,o,g1,g2,g3,hn⟩,_⟩:=hμ' a w hI;have hn:n=μ' a w:=hn
  -- the round's own answer
  have hround: ∃lo,body x=some lo/\((∃y n',lo= .next y/\Cf body y o n'/\n=n'+1)\/(lo=o)):=by
   cases g1 with
   |brk h'=>exact⟨_,h',.inr rfl⟩
   |ret h'=>exact⟨_,h',.inr rfl⟩
   |step h' h2=>exact⟨_,h',.inl ⟨_,_,rfl,h2,rfl⟩⟩
  obtain⟨lo,hlo,hcase⟩:=hround;refine ih _ _ lo _ a w g3 hlo fun e s' a' w' hk hs' hz=>?_
  obtain⟨f1,f2,f3⟩:=Ko hk;have hk0:Kp (Ax (AJ b)) s s':=Kp.trans (Ow hok) hk (fun _ h=>h) fun _ h=>h
  cases e with
  |normal=>
   unfold QU at hz;simp only at hz;split at hz
   case h_2=>cases hz
   rename_i cs2 hcs2;split at hz
   case h_2=>cases hz
   rename_i x2 hx2;cases hz;rcases hcase with⟨y,n',he,hl2,hnn⟩|he
   ·cases he
    have hs2:AY C E.h.n (A7 true (AJ b) L Rh s (ofX tys x2)).den a' w':=by
     rw [P7 _ _ _ hx2];exact Jn hs' hcs2 hkeep hml f1 f2 f3
    have hI2:I' a' w':=⟨x2,n',o,hl2,g2,hs2⟩;refine⟨hI2,?_⟩;have:=(hμ' a' w' hI2).2 x2 n' o hl2 g2 hs2;have:μ' a' w'<=n':=this;omega
   ·subst he
    cases g2
  |exit id=>
   unfold QU at hz;simp only at hz;split at hz
   case h_2=>cases hz
   rename_i cs2 hcs2;split at hz
   case h_2=>cases hz
   rename_i x2 hx2;cases hz;rcases hcase with⟨y,n',he,_⟩|he
   ·cases he
   ·subst he
    have g2:brkK K (Nj b).eraseDups id (A7 false (AJ b) L Rh s (ofX tys x2))=some z:=g2
    have hs2:AY C E.h.n (A7 false (AJ b) L Rh s (ofX tys x2)).den a' w':=by
     rw [P7 _ _ _ hx2];exact Jn hs' hcs2 hkeep hml f1 f2 f3
    exact hQ _ _ _ _ (Ow hok) hs2 (Nv _ _ g2)
  |ret=>
   have hz:(K .ret s').map LO.ret=some lo:=hz;cases hkr:K .ret s' with
   |none=>rw [hkr]at hz;cases hz
   |some r=>
    rw [hkr]at hz;cases hz;rcases hcase with⟨y,n',he,_⟩|he
    ·cases he
    ·subst he
     cases g2;exact hQ _ _ _ _ hk0 hs' hkr
  |goto l=>cases hz
  |panic ch=>cases hz
  |outgrown=>cases hz
def JG(P:Program)(E:AF)(C:Ctx)(H:Code->{R:Type}->St->(Exit->St->Option R)->Option R):Prop:=
 ∀ (c:Code) {R:Type} (s:St) (K:Exit->St->Option R) (z:R) (Q:Exit->Act->World->Prop) (a:Act) (w:World),AY C E.h.n s.den a w->H c s K=some z->
  (∀e s' a' w',Kp (Ax (AJ c)) s s'->AY C E.h.n s'.den a' w'->K e s'=some z->Q e a' w')->(Code.scope c).wp P Q a w
theorem Mj{P:Program}{H:Code->{R:Type}->St->(Exit->St->Option R)->Option R}{E:AF}{C:Ctx}(hE:EOK P E.toEnv)(hm:P.follows .mixedOrders=true)(hkeep:C.m<=E.h.keep)(hH:JG P E C H): ∀ (c:Code) {R:Type} (s:St) (K:Exit->St->Option R) (z:R) (Q:Exit->Act->World->Prop) (a:Act) (w:World),AY C E.h.n s.den a w->BE H E c s K=some z->
  (∀e s' a' w',Kp (Ax (AJ c)) s s'->AY C E.h.n s'.den a' w'->K e s'=some z->Q e a' w')->c.wp P Q a w:=by
 intro c
 induction c with
 |skip=>intro R s K z Q a w hs h hQ;exact wp_skip (hQ _ _ _ _ (Kp.refl _ _) hs h)
 |region id ops draw=>
  intro R s K z Q a w hs h hQ;cases draw with
  |false=>
   have h:WL E.toEnv ops (Ui ops.size ops.toList) s (K .normal)=some z:=h;refine wp_region_list ?_;have:=Uu hE (ops:=ops) (Q:=Q) _ s a w hs h fun s' a' w' hk hs' hz=>hQ .normal s' a' w' (by rw [B3]at hk;exact hk) hs' hz
   rw [B3]at this;exact this
  |true=>exact W4 hE hm hs h fun s' a' w' hk hs' hz=>hQ .normal s' a' w' hk hs' hz
 |seq x y ihx ihy=>
  intro R s K z Q a w hs h hQ
  have hsp: ∀i,Ax (AJ (.seq x y)) i=true->Ax (AJ x) i=true/\Ax (AJ y) i=true:=fun i hi=>by
   have hi:Ax (AJ x++AJ y) i=true:=hi;rw [Dp,bAE]at hi;exact hi
  refine wp_seq (ihx s _ z _ a w hs h fun e s' a' w' hk hs' hz=>?_)
  have hk':Kp (Ax (AJ (.seq x y))) s s':=hk.weak fun i hi=>(hsp i hi).1
  cases e with
  |normal=>exact ihy s' K z Q a' w' hs' hz fun e2 s2 a2 w2 hk2 hs2 hz2=>hQ e2 s2 a2 w2 (hk.trans hk2 (fun i hi=>(hsp i hi).1) fun i hi=>(hsp i hi).2) hs2 hz2
  |exit id=>exact hQ _ _ _ _ hk' hs' hz
  |ret=>exact hQ _ _ _ _ hk' hs' hz
  |goto l=>exact hQ _ _ _ _ hk' hs' hz
  |panic ch=>cases hz
  |outgrown=>cases hz
 |cond c x y ihx ihy=>
  intro R s K z Q a w hs h hQ
  have hsp: ∀i,Ax (AJ (.cond c x y)) i=true->Ax (AJ x) i=true/\Ax (AJ y) i=true:=fun i hi=>by
   have hi:Ax (AJ x++AJ y) i=true:=hi;rw [Dp,bAE]at hi;exact hi
  have h:(match s.ev c with
   |some (.one (.c .bool _ b))=>bif b then BE H E x s K else BE H E y s K
   |_=>none)=some z:=h
  split at h
  ·rename_i d b hb
   obtain⟨hdd,D,ρ,F,hcr⟩:=hs.2;have h1:=Cd hcr hdd c;rw [A8 hb]at h1;refine wp_cond (t:=b) h1.1 ?_;cases b with
   |true=>exact ihx s K z Q a w hs h fun e s' a' w' hk=>hQ e s' a' w' (hk.weak fun i hi=>(hsp i hi).1)
   |false=>exact ihy s K z Q a w hs h fun e s' a' w' hk=>hQ e s' a' w' (hk.weak fun i hi=>(hsp i hi).2)
  ·cases h
 |block id b ih=>
  intro R s K z Q a w hs h hQ;refine wp_block (ih s _ z _ a w hs h fun e s' a' w' hk hs' hz=>?_)
  cases e with
  |exit id'=>
   simp only [Exit.inBlock];have hz:(bif Nat.beq id' id then K .normal s' else K (.exit id') s')=some z:=hz;by_cases he:id'=id
   ·subst he
    rw [Nat.beq_refl]at hz;rw [if_pos rfl];exact hQ _ _ _ _ hk hs' hz
   ·rw [B9 he]at hz
    rw [if_neg he];exact hQ _ _ _ _ hk hs' hz
  |normal=>exact hQ _ _ _ _ hk hs' hz
  |ret=>exact hQ _ _ _ _ hk hs' hz
  |goto l=>exact hQ _ _ _ _ hk hs' hz
  |panic ch=>cases hz
  |outgrown=>cases hz
 |loop b ih=>
  intro R s0 K z Q a w hs h hQ;unfold BE at h;obtain⟨s,hso⟩: ∃s,s=Lw (ozOf E.dn (Bt b)) s0:=⟨_,rfl⟩;rw [<-hso]at h;obtain⟨hden,hkp⟩:=Hm (ozOf E.dn (Bt b)) s0;rw [<-hso]at hden hkp;rw [<-hden]at hs;have hQ: ∀e s' a' w',Kp (Ax (AJ (.loop b))) s s'->AY C E.h.n s'.den a' w'->K e s'=some z->Q e a' w':=fun e s' a' w' hk=>hQ e s' a' w' ((hkp _).trans hk (fun _ h=>h) fun _ h=>h)
  have h:(match QJ s E.lp (Bt b)with
   |(L,Rh)=>bif Hq (AJ b) L Rh s then(match XR L Rh s s E.h.keep with
    |some cs=>match toX (cs.map (·.t)) cs with
     |some x=>I7 (Am (fun x=>BE H E b (A7 true (AJ b) L Rh s (ofX (cs.map (·.t)) x)) (QU L Rh s E.h.keep (cs.map (·.t)) K)) x) (XX b L Rh s (cs.map (·.t)) K)
     |none=>none
    |none=>none)else none)=some z:=h
  split at h
  rename_i L Rh hlp;cases hok:Hq (AJ b) L Rh s with
  |false=>rw [hok]at h;cases h
  |true=>
   rw [hok]at h;simp only [cond_true]at h;split at h
   case h_2=>cases h
   rename_i cs hcs;split at h
   case h_2=>cases h
   rename_i x0 hx0;have hx0':=P7 _ _ _ hx0;exact ZS hkeep ih hs hok hcs hx0' h hQ
 |exit id=>intro R s K z Q a w hs h hQ;exact wp_exit (hQ _ _ _ _ (Kp.refl _ _) hs h)
 |label l=>intro R s K z Q a w hs h hQ;exact wp_label (hQ _ _ _ _ (Kp.refl _ _) hs h)
 |ret=>intro R s K z Q a w hs h hQ;exact wp_ret (hQ _ _ _ _ (Kp.refl _ _) hs h)
 |goto l=>intro R s K z Q a w hs h hQ;exact wp_goto (hQ _ _ _ _ (Kp.refl _ _) hs h)
 |rangeFunc f ps x y _ _=>intro R s K z Q a w hs h hQ;cases h
 |scope c _=>intro R s K z Q a w hs h hQ;exact hH c s K z Q a w hs h hQ
 |refuse s=>intro R s K z Q a w hs h hQ;cases h
theorem KT{P:Program}{a:Act}{w:World}{Q:Exit->Act->World->Prop}{c:Code}(J:Nat->Act->World->Prop)(μ:Nat->Act->World->Nat)
  (first:c.wp P (fun e a w=>match e with
   | .goto l=>(∃r,findLabel c l=some r)/\J l a w
   |e=>Q e a w) a w)
  (pass: ∀l r a w,findLabel c l=some r->J l a w->r.wp P (fun e a' w'=>match e with
   | .goto l'=>(∃r',findLabel c l'=some r')/\J l' a' w'/\μ l' a' w'<μ l a w
   |e=>Q e a' w') a w):(Code.scope c).wp P Q a w:=by
 intro b k cs;have hg: ∀l r,findLabel c l=some r->gotoIn l (.inScope c::k)=some (.code r:: .inScope c::k):=fun l r hf=>by simp [gotoIn,hf]
 have key: ∀n l r a w,findLabel c l=some r->μ l a w=n->J l a w->∃e a' w',Q e a' w'/\Arrives P (lone (b.at a (.code r:: .inScope c::k)) cs w) b k cs e a' w':=by
  intro n
  induction n using Nat.strongRecOn with
  |_ n ih=>
   intro l r a w hf hn hJ;obtain⟨e,a₁,w₁,hq,harr⟩:=pass l r a w hf hJ b (.inScope c::k) cs;cases e with
   |normal=>exact⟨.normal,a₁,w₁,hq,Steps.trans harr (.one step_inScope)⟩
   |exit id=>exact⟨.exit id,a₁,w₁,hq,fun k' hk=>harr k' (by simp [exitTo,hk])⟩
   |goto l'=>
    obtain⟨⟨r',hf'⟩,hJ',hlt⟩:=hq;obtain⟨e₂,a₂,w₂,hq₂,harr₂⟩:=ih _ (by omega) l' r' a₁ w₁ hf' rfl hJ'
    exact⟨e₂,a₂,w₂,hq₂,.of_steps (harr _ (hg l' r' hf')) harr₂⟩
   |ret=>exact⟨_,a₁,w₁,hq,harr⟩
   |panic ch=>exact⟨_,a₁,w₁,hq,harr⟩
   |outgrown=>exact⟨_,a₁,w₁,hq,harr⟩
 obtain⟨e,a₁,w₁,hq,harr⟩:=first b (.inScope c::k) cs
 cases e with
 |normal=>exact⟨.normal,a₁,w₁,hq,.head step_scope (Steps.trans harr (.one step_inScope))⟩
 |exit id=>exact⟨.exit id,a₁,w₁,hq,fun k' hk=>.head step_scope (harr k' (by simp [exitTo,hk]))⟩
 |goto l'=>
  obtain⟨⟨r',hf'⟩,hJ'⟩:=hq;obtain⟨e₂,a₂,w₂,hq₂,harr₂⟩:=key _ l' r' a₁ w₁ hf' rfl hJ';exact⟨e₂,a₂,w₂,hq₂,.of_steps (.head step_scope (harr _ (hg l' r' hf'))) harr₂⟩
 |ret=>exact⟨_,a₁,w₁,hq,.of_steps (.one step_scope) harr⟩
 |panic ch=>exact⟨_,a₁,w₁,hq,.of_steps (.one step_scope) harr⟩
 |outgrown=>exact⟨_,a₁,w₁,hq,.of_steps (.one step_scope) harr⟩
theorem CI{a b:Code}(h: ¬∃l,a= .label l)(l:Nat):BK (.seq a b) l=BK b l:=by
 cases a<;>first|rfl|exact absurd ⟨_,rfl⟩ h
theorem P9{E:AF}{a b:Code}(h: ¬∃l,a= .label l){R:Type}(s:St)(K:Exit->St->Option R)(KL:Nat->St->Option R):DL E (.seq a b) s K KL=BE (fun _ _ _ _=>none) E a s fun e s'=>match e with
   | .normal=>DL E b s' K KL
   | .exit id=>K (.exit id) s'
   | .ret=>K .ret s'
   | .goto l=>K (.goto l) s'
   |_=>none:=by
 cases a<;>first|rfl|exact absurd ⟨_,rfl⟩ h
theorem DV: ∀ (c:Code) (l:Nat),(Bk c).isEmpty=true->findLabel c l=none
 | .seq a b,l,h=>by
  have h:(Bk a++Bk b).isEmpty=true:=h;rw [List.isEmpty_iff,List.append_eq_nil_iff]at h;have h:(Bk a).isEmpty=true/\(Bk b).isEmpty=true:=⟨by rw [h.1];rfl,by rw [h.2];rfl⟩
  unfold findLabel;rw [DV a l h.1,DV b l h.2]
 | .label l',l,h=>by cases h
 | .skip,_,_=>rfl
 | .region ..,_,_=>rfl
 | .cond ..,_,_=>rfl
 | .block ..,_,_=>rfl
 | .loop ..,_,_=>rfl
 | .exit ..,_,_=>rfl
 | .goto ..,_,_=>rfl
 | .ret,_,_=>rfl
 | .scope ..,_,_=>rfl
 | .rangeFunc ..,_,_=>rfl
 | .refuse ..,_,_=>rfl
theorem Ix{P:Program}: ∀ (c b:Code) (l:Nat),Ju c=true->BK c l=some b->∃r,findLabel c l=some r/\∀Q a w,b.wp P Q a w->r.wp P Q a w
 | .seq a b',b,l,hc,h=>by
  have hc:((Ot a||(Bk a).isEmpty)&&Ju b')=true:=hc;rw [bAE,Bool.or_eq_true]at hc;by_cases hl: ∃l',a= .label l'
  ·obtain⟨l',rfl⟩:=hl
   have h:(bif Nat.beq l' l then some b' else BK b' l)=some b:=h;cases he:Nat.beq l' l with
   |true=>
    rw [he]at h;have e:l'=l:=Nat.eq_of_beq_eq_true he;subst e;obtain rfl:b'=b:=Option.some.inj h;exact⟨.seq .skip b',by simp [findLabel],fun Q a w hw=>wp_seq (wp_skip hw)⟩
   |false=>
    rw [he]at h;obtain⟨r,h1,h2⟩:=Ix b' b l hc.2 h;refine⟨r,?_,h2⟩;have e:l'≠l:=fun e=>by subst e;rw [Nat.beq_refl]at he;cases he
    simp [findLabel,e,h1]
  ·rw [CI hl]at h
   obtain⟨r,h1,h2⟩:=Ix b' b l hc.2 h;refine⟨r,?_,h2⟩;have hn:findLabel a l=none:=by
    rcases hc.1 with h'|h'
    ·exfalso
     unfold Ot at h';split at h'
     ·exact hl ⟨_,rfl⟩
     ·cases h'
    ·exact DV a l h'
   unfold findLabel;rw [hn,h1]
 | .label ..,_,_,_,h=>by cases h
 | .skip,_,_,_,h=>by cases h
 | .region ..,_,_,_,h=>by cases h
 | .cond ..,_,_,_,h=>by cases h
 | .block ..,_,_,_,h=>by cases h
 | .loop ..,_,_,_,h=>by cases h
 | .exit ..,_,_,_,h=>by cases h
 | .goto ..,_,_,_,h=>by cases h
 | .ret,_,_,_,h=>by cases h
 | .scope ..,_,_,_,h=>by cases h
 | .rangeFunc ..,_,_,_,h=>by cases h
 | .refuse ..,_,_,_,h=>by cases h
def Ku:Code->Option Nat
 | .seq a b=>match a with
  | .label l=>some l
  |_=>Ku b
 |_=>none
theorem Ks{a b:Code}(h: ¬∃l,a= .label l):Ku (.seq a b)=Ku b:=by
 cases a<;>first|rfl|exact absurd ⟨_,rfl⟩ h
theorem NW{b r:Code}{l i:Nat}: ∀ {c:Code},Ku c=some l->BK c l=some b->BK c i=some r->(i=l/\r=b)\/BK b i=some r:=by
 intro c
 induction c with
 |seq a b' iha ihb=>
  intro h1 h2 h3;by_cases hl: ∃l',a= .label l'
  ·obtain⟨l',rfl⟩:=hl
   have h1:some l'=some l:=h1;cases h1;have h2:(bif Nat.beq l l then some b' else BK b' l)=some b:=h2;rw [Nat.beq_refl]at h2;obtain rfl:b'=b:=Option.some.inj h2;have h3:(bif Nat.beq l i then some b' else BK b' i)=some r:=h3;cases he:Nat.beq l i with
   |true=>rw [he]at h3;cases h3;exact .inl ⟨(Nat.eq_of_beq_eq_true he).symm,rfl⟩
   |false=>rw [he]at h3;exact .inr h3
  ·have e1:=Ks (b:=b') hl
   have e2:=CI (b:=b') hl;rw [e1]at h1;rw [e2]at h2 h3;exact ihb h1 h2 h3
 |_=>intro h1;cases h1
theorem I1{i:Nat}: ∀ (c b:Code) (l:Nat),BK c l=some b->Ax (AJ c) i=true->Ax (AJ b) i=true:=by
 intro c
 induction c with
 |seq a b' iha ihb=>
  intro b l h hi;have hi:Ax (AJ a++AJ b') i=true:=hi;rw [Dp,bAE]at hi;by_cases hl: ∃l',a= .label l'
  ·obtain⟨l',rfl⟩:=hl
   have h:(bif Nat.beq l' l then some b' else BK b' l)=some b:=h;cases he:Nat.beq l' l with
   |true=>rw [he]at h;cases h;exact hi.2
   |false=>rw [he]at h;exact ihb b l h hi.2
  ·rw [CI hl]at h;exact ihb b l h hi.2
 |_=>intro b l h;cases h
theorem JG.none{P:Program}{E:AF}{C:Ctx}:JG P E C (fun _ _ _ _=>.none):=fun _ _ _ _ _ _ _ _ _ h=>by cases h
theorem Mi{P:Program}{E:AF}{C:Ctx}(hE:EOK P E.toEnv)(hm:P.follows .mixedOrders=true)(hkeep:C.m<=E.h.keep): ∀ (c:Code) {R:Type} (s:St) (K:Exit->St->Option R) (KL:Nat->St->Option R) (z:R) (Q:Exit->Act->World->Prop) (a:Act) (w:World),AY C E.h.n s.den a w->DL E c s K KL=some z->
  (∀e s' a' w',Kp (Ax (AJ c)) s s'->AY C E.h.n s'.den a' w'->K e s'=some z->Q e a' w')->
  (∀l b s' a' w',Kp (Ax (AJ c)) s s'->AY C E.h.n s'.den a' w'->KL l s'=some z->Ku c=some l->BK c l=some b->b.wp P Q a' w')->c.wp P Q a w:=by
 have base: ∀ (c:Code) {R:Type} (s:St) (K:Exit->St->Option R) (z:R) (Q:Exit->Act->World->Prop) (a:Act) (w:World),AY C E.h.n s.den a w->BE (fun _ _ _ _=>.none) E c s K=some z->
  (∀e s' a' w',Kp (Ax (AJ c)) s s'->AY C E.h.n s'.den a' w'->K e s'=some z->Q e a' w')->c.wp P Q a w:=Mj hE hm hkeep JG.none
 intro c
 induction c with
 |seq x y ihx ihy=>
  intro R s K KL z Q a w hs h hQ hL
  have hsp: ∀i,Ax (AJ (.seq x y)) i=true->Ax (AJ x) i=true/\Ax (AJ y) i=true:=fun i hi=>by
   have hi:Ax (AJ x++AJ y) i=true:=hi;rw [Dp,bAE]at hi;exact hi
  by_cases hl: ∃l,x= .label l
  ·obtain⟨l,rfl⟩:=hl
   have h:KL l s=some z:=h;exact wp_seq (wp_label (hL l y s a w (Kp.refl _ _) hs h rfl (by show(bif Nat.beq l l then some y else BK y l)=_;rw [Nat.beq_refl];rfl)))
  ·have h:BE (fun _ _ _ _=>.none) E x s (fun e s'=>match e with
    | .normal=>DL E y s' K KL
    | .exit id=>K (.exit id) s'
    | .ret=>K .ret s'
    | .goto l=>K (.goto l) s'
    |_=>.none)=some z:=(P9 hl s K KL).symm.trans h
   have e1:=Ks (b:=y) hl;have e2:=CI (b:=y) hl;refine wp_seq (base x s _ z _ a w hs h fun e s' a' w' hk hs' hz=>?_)
   have hk':Kp (Ax (AJ (.seq x y))) s s':=hk.weak fun i hi=>(hsp i hi).1
   cases e with
   |normal=>
    exact ihy s' K KL z Q a' w' hs' hz (fun e2 s2 a2 w2 hk2 hs2 hz2=>hQ e2 s2 a2 w2 (hk.trans hk2 (fun i hi=>(hsp i hi).1) fun i hi=>(hsp i hi).2) hs2 hz2)
     fun l b s2 a2 w2 hk2 hs2 hz2 h1 h2=>hL l b s2 a2 w2 (hk.trans hk2 (fun i hi=>(hsp i hi).1) fun i hi=>(hsp i hi).2) hs2 hz2 (e1.trans h1) ((e2 l).trans h2)
   |exit id=>exact hQ _ _ _ _ hk' hs' hz
   |ret=>exact hQ _ _ _ _ hk' hs' hz
   |goto l=>exact hQ _ _ _ _ hk' hs' hz
   |panic ch=>cases hz
   |outgrown=>cases hz
 |skip=>intro R s K KL z Q a w hs h hQ _;exact base _ s K z Q a w hs h hQ
 |region=>intro R s K KL z Q a w hs h hQ _;exact base _ s K z Q a w hs h hQ
 |cond=>intro R s K KL z Q a w hs h hQ _;exact base _ s K z Q a w hs h hQ
 |block=>intro R s K KL z Q a w hs h hQ _;exact base _ s K z Q a w hs h hQ
 |loop=>intro R s K KL z Q a w hs h hQ _;exact base _ s K z Q a w hs h hQ
 |exit=>intro R s K KL z Q a w hs h hQ _;exact base _ s K z Q a w hs h hQ
 |label=>intro R s K KL z Q a w hs h hQ _;exact base _ s K z Q a w hs h hQ
 |ret=>intro R s K KL z Q a w hs h hQ _;exact base _ s K z Q a w hs h hQ
 |goto=>intro R s K KL z Q a w hs h hQ _;exact base _ s K z Q a w hs h hQ
 |rangeFunc=>intro R s K KL z Q a w hs h hQ _;exact base _ s K z Q a w hs h hQ
 |scope=>intro R s K KL z Q a w hs h hQ _;exact base _ s K z Q a w hs h hQ
 |refuse=>intro R s K KL z Q a w hs h hQ _;exact base _ s K z Q a w hs h hQ
theorem I0{E:AF}{c:Code}{ops:List Oper}{L Rh:List Nat}{s:St}{tys:List Ty}{R:Type}{K:Exit->St->Option R}{l:Nat}{x:(Bd tys).T}{o:LO (Nat×(Bd tys).T) R}: ∀ (ls:List Nat),Ic E c ops L Rh s tys K l x ls=some o->
  ∃r,BK c l=some r/\DL E r (A7 true ops L Rh s (ofX tys x)) (Aad L Rh s E.h.keep tys K) (Q3 L Rh s E.h.keep tys)=some o
 | [],h=>by cases h
 |i::ls,h=>by
  have h:(if l=i then(match BK c i with
   |some rest=>DL E rest (A7 true ops L Rh s (ofX tys x)) (Aad L Rh s E.h.keep tys K) (Q3 L Rh s E.h.keep tys)
   | .none=>.none)else Ic E c ops L Rh s tys K l x ls)=some o:=h
  split at h
  ·rename_i e
   subst e;split at h
   ·rename_i r hr;exact⟨r,hr,h⟩
   ·cases h
  ·exact I0 ls h
theorem U5{X R:Type}{o:Option R}{lo:LO X R}(h:AV o=some lo): ∃z,o=some z/\lo= .ret z:=by
 cases o with
 |none=>cases h
 |some z=>cases h;exact⟨z,rfl,rfl⟩
theorem U6: ∀ {c b:Code} {l:Nat},BK c l=some b->l∈Bk c:=by
 intro c
 induction c with
 |seq a b' iha ihb=>
  intro b l h;show l∈Bk a++Bk b';by_cases hl: ∃l',a= .label l'
  ·obtain⟨l',rfl⟩:=hl
   have h:(bif Nat.beq l' l then some b' else BK b' l)=some b:=h;cases he:Nat.beq l' l with
   |true=>rw [<-Nat.eq_of_beq_eq_true he];simp [Bk]
   |false=>rw [he]at h;exact List.mem_append_right _ (ihb h)
  ·rw [CI hl]at h;exact List.mem_append_right _ (ihb h)
 |_=>intro b l h;cases h
theorem Qr: ∀ {c b r:Code} {l i:Nat},(Bk c).Nodup->BK c l=some b->BK b i=some r->BK c i=some r:=by
 intro c
 induction c with
 |seq a b' iha ihb=>
  intro b r l i hn h1 h2;have hn:(Bk a++Bk b').Nodup:=hn;rw [List.nodup_append]at hn;by_cases hl: ∃l',a= .label l'
  ·obtain⟨k,rfl⟩:=hl
   have h1:(bif Nat.beq k l then some b' else BK b' l)=some b:=h1;have hi:BK b' i=some r:=by
    cases he:Nat.beq k l with
    |true=>rw [he]at h1;cases h1;exact h2
    |false=>rw [he]at h1;exact ihb hn.2.1 h1 h2
   have hne:k≠i:=hn.2.2 k (by simp [Bk]) i (U6 hi)
   show(bif Nat.beq k i then some b' else BK b' i)=_;rw [B9 hne];exact hi
  ·have e2:=CI (b:=b') hl
   rw [e2]at h1⊢;exact ihb hn.2.1 h1 h2
 |_=>intro b r l i _ h;cases h
theorem U0{P:Program}{E:AF}{C:Ctx}(hE:EOK P E.toEnv)(hm:P.follows .mixedOrders=true)(hkeep:C.m<=E.h.keep):JG P E C (U1 E):=by
 intro c R s K z Q a w hs h hQ;unfold U1 at h;cases hch:Ju c&&M1 (Bk c)with
 |false=>rw [hch]at h;cases h
 |true=>
 rw [hch]at h;rw [bAE]at hch;obtain⟨hch,hnd⟩:=hch;have hnd:=M0 hnd;have h:DL E c s (YA K) _=some z:=h
 let D:Nat->Nat->Act->World->Prop:=fun n l a w=>∃ (l0:Nat) (c1:Code) (L Rh:List Nat) (s1:St) (tys:List Ty) (x:(Bd tys).T),Ku c=some l0/\BK c l0=some c1/\Hq (AJ c1) L Rh s1=true/\Kp (Ax (AJ c)) s s1/\C.m<=s1.r.length/\
  Cf (fun y:Nat×(Bd tys).T=>Ic E c (AJ c1) L Rh s1 tys K y.1 y.2 (Bk c)) (l,x) (.ret z) n/\AY C E.h.n (A7 true (AJ c1) L Rh s1 (ofX tys x)).den a w
 have claim: ∀n l a w,D n l a w->∃b,BK c l=some b/\b.wp P (fun e a' w'=>match e with
   | .goto l'=>∃n',n'<n/\D n' l' a' w'
   |e=>Q e a' w') a w:=by
  intro n
  induction n using Nat.strongRecOn with
  |_ n ih=>
  intro l a w hD;obtain⟨l0,c1,L,Rh,s1,tys,x,hf0,hr0,hok,hk1,hml,hT,hsr⟩:=hD
  have hround: ∃lo,Ic E c (AJ c1) L Rh s1 tys K l x (Bk c)=some lo/\((∃y n',lo= .next y/\Cf (fun y:Nat×(Bd tys).T=>Ic E c (AJ c1) L Rh s1 tys K y.1 y.2 (Bk c)) y (.ret z) n'/\n=n'+1)\/(lo= .ret z)):=by
   cases hT with
   |ret h'=>exact⟨_,h',.inr rfl⟩
   |step h' h2=>exact⟨_,h',.inl ⟨_,_,rfl,h2,rfl⟩⟩
  obtain⟨lo,hlo,hcase⟩:=hround;obtain⟨b,hb,hex⟩:=I0 _ hlo;refine⟨b,hb,?_⟩
  have hdst: ∀i,Ax (AJ c1) i=true->Ax (AJ b) i=true:=fun i hi=>by
   rcases NW (c:=c) hf0 hr0 hb with⟨_,rfl⟩|h
   ·exact hi
   ·exact I1 c1 b l h hi
  have hgo: ∀ (l':Nat) (s':St) (a':Act) (w':World),Kp (Ax (AJ b)) (A7 true (AJ c1) L Rh s1 (ofX tys x)) s'->AY C E.h.n s'.den a' w'->Q3 L Rh s1 E.h.keep tys l' s'=some lo->∃n',n'<n/\D n' l' a' w':=by
   intro l' s' a' w' hk hs' hx;unfold Q3 at hx;split at hx
   case h_2=>cases hx
   rename_i cs2 hcs2;split at hx
   case h_2=>cases hx
   rename_i x2 hx2;cases hx;rcases hcase with⟨y,n',he,hT',hn'⟩|he
   ·cases he
    obtain⟨f1,f2,f3⟩:=Ko (hk.weak hdst);refine⟨n',by omega,l0,c1,L,Rh,s1,tys,x2,hf0,hr0,hok,hk1,hml,hT',?_⟩
    rw [P7 _ _ _ hx2];exact Jn hs' hcs2 hkeep hml f1 f2 f3
   ·cases he
  have hk0: ∀s',Kp (Ax (AJ b)) (A7 true (AJ c1) L Rh s1 (ofX tys x)) s'->Kp (Ax (AJ c)) s s':=fun s' hk=>
   Kp.trans hk1 (Kp.trans (Ow hok) hk (g:=Ax (AJ c)) (fun i hi=>I1 c c1 l0 hr0 hi) fun i hi=>I1 c b l hb hi) (fun _ h=>h) fun _ h=>h
  refine Mi hE hm hkeep b _ _ _ lo _ a w hsr hex (fun e s' a' w' hk hs' hz=>?_) fun l' b' s' a' w' hk hs' hz _ h2=>?_
  ·have hret: ∀e',AV (K e' s')=some lo->Q e' a' w':=fun e' hz=>by
    obtain⟨z',h1,rfl⟩:=U5 hz;rcases hcase with⟨_,_,he,_⟩|he
    ·cases he
    ·cases he
     exact hQ _ _ _ _ (hk0 s' hk) hs' h1
   cases e with
   |goto l'=>exact hgo l' s' a' w' hk hs' hz
   |normal=>exact hret _ hz
   |exit id=>exact hret _ hz
   |ret=>exact hret _ hz
   |panic ch=>cases hz
   |outgrown=>cases hz
  ·obtain⟨n',hn',hD'⟩:=hgo l' s' a' w' hk hs' hz
   obtain⟨b2,hb2,hw2⟩:=ih n' hn' l' a' w' hD';rw [Qr hnd hb h2]at hb2;cases hb2;refine _root_.Go.wp_mono hw2 fun e a w hq=>?_
   cases e with
   |goto l2=>obtain⟨n2,h1,h2⟩:=hq;exact⟨n2,by omega,h2⟩
   |normal=>exact hq
   |exit id=>exact hq
   |ret=>exact hq
   |panic ch=>exact hq
   |outgrown=>exact hq
 have hlab: ∀n l a w,D n l a w->∃r,findLabel c l=some r:=fun n l a w hD=>by
  obtain⟨b,hb,_⟩:=claim n l a w hD;obtain⟨r,hr,_⟩:=Ix (P:=P) c b l hch hb;exact⟨r,hr⟩
 have hmin: ∀ (l:Nat) (a:Act) (w:World),∃k,(∃n,D n l a w)->D k l a w/\∀n,D n l a w->k<=n:=by
  intro l a w;by_cases hJ: ∃n,D n l a w
  ·obtain⟨k,hk,hlt⟩:=Z1 hJ
   exact⟨k,fun _=>⟨hk,fun n hn=>Nat.le_of_not_lt fun hl=>hlt n hl hn⟩⟩
  ·exact⟨0,fun h=>absurd h hJ⟩
 refine KT (fun l a w=>∃n,D n l a w) (fun l a w=>Classical.choose (hmin l a w)) ?_ ?_
 ·refine Mi hE hm hkeep c s _ _ z _ a w hs h (fun e s' a' w' hk hs' hz=>?_) fun l b s1 a' w' hk hs' hz h1 h2=>?_
  ·cases e with
   |goto l=>cases hz
   |normal=>exact hQ _ _ _ _ hk hs' hz
   |exit id=>exact hQ _ _ _ _ hk hs' hz
   |ret=>exact hQ _ _ _ _ hk hs' hz
   |panic ch=>exact hQ _ _ _ _ hk hs' hz
   |outgrown=>exact hQ _ _ _ _ hk hs' hz
  ·rw [h2]at hz
   generalize QJ s1 E.lp (Bt c)=p at hz;obtain⟨L,Rh⟩:=p;simp only at hz;cases hok:Hq (AJ b) L Rh s1 with
   |false=>rw [hok]at hz;cases hz
   |true=>
   rw [hok]at hz;simp only [cond_true]at hz;split at hz
   case h_2=>cases hz
   rename_i cs hcs;split at hz
   case h_2=>cases hz
   rename_i x hx;have hml:C.m<=s1.r.length:=by
    obtain⟨hd0,hdd0,D0,ρ0,F0,hcr0⟩:=id hs';have:=hcr0.ml;simpa [St.den]using this
   cases hl:Am (fun y:Nat×(Bd (cs.map (·.t))).T=>Ic E c (AJ b) L Rh s1 (cs.map (·.t)) K y.1 y.2 (Bk c)) (l,x)with
   |none=>rw [hl]at hz;cases hz
   |some o=>
   rw [hl]at hz;cases o with
   |next=>cases hz
   |brk=>cases hz
   |ret r=>
   cases hz;obtain⟨n,hn⟩:=Cg.1 hl;have hD:D n l a' w':=by
    refine⟨l,b,L,Rh,s1,_,x,h1,h2,hok,hk,hml,hn,?_⟩;rw [P7 _ _ _ hx];exact Jn hs' hcs hkeep hml (fun _ _ _ _=>rfl) (fun _ _ _=>⟨rfl,rfl⟩) fun _ _ _ _=>rfl
   obtain⟨b2,hb2,hw2⟩:=claim n l a' w' hD;rw [h2]at hb2;cases hb2;refine _root_.Go.wp_mono hw2 fun e a w hq=>?_
   cases e with
   |goto l2=>obtain⟨n2,h1,h2⟩:=hq;exact⟨hlab _ _ _ _ h2,n2,h2⟩
   |normal=>exact hq
   |exit id=>exact hq
   |ret=>exact hq
   |panic ch=>exact hq
   |outgrown=>exact hq
 ·intro l r a w hf hJ
  obtain⟨hD,_⟩:=Classical.choose_spec (hmin l a w) hJ;obtain⟨b,hb,hw⟩:=claim _ l a w hD;obtain⟨r',hr',hrw⟩:=Ix c b l hch hb;rw [hf]at hr';cases hr';refine hrw _ _ _ (_root_.Go.wp_mono hw fun e a' w' hq=>?_)
  cases e with
  |goto l2=>
   obtain⟨n2,h1,h2⟩:=hq;refine⟨hlab _ _ _ _ h2,⟨n2,h2⟩,?_⟩;have:=(Classical.choose_spec (hmin l2 a' w') ⟨n2,h2⟩).2 n2 h2;show Classical.choose (hmin l2 a' w')<Classical.choose (hmin l a w);omega
  |normal=>exact hq
  |exit id=>exact hq
  |ret=>exact hq
  |panic ch=>exact hq
  |outgrown=>exact hq
theorem OZ{P:Program}{E:AF}{C:Ctx}(hE:EOK P E.toEnv)(hm:P.follows .mixedOrders=true)(hkeep:C.m<=E.h.keep)(c:Code){R:Type}(s:St)(K:Exit->St->Option R)(z:R)(Q:Exit->Act->World->Prop)(a:Act)(w:World)(hs:AY C E.h.n s.den a w)(h:Y5 E c s K=some z)
  (hQ: ∀e s' a' w',Kp (Ax (AJ c)) s s'->AY C E.h.n s'.den a' w'->K e s'=some z->Q e a' w'):c.wp P Q a w:=
 Mj hE hm hkeep (U0 hE hm hkeep) c s K z Q a w hs h hQ
end Go.Ve

