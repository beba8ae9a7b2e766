/- The typed machine over code: what a body computes, as a function; that it does. -/
import Derived.Test.YtnhlomkcachnbaaTl
namespace Go.Ve
inductive LO(X R:Type) where
 |next (x:X)
 |brk (id:Nat) (x:X)
 |ret (r:R)
inductive Cb{X R:Type}(f:X->Option (LO X R)):X->LO X R->Nat->Prop where
 |brk {x y:X} {id:Nat}:f x=some (.brk id y)->Cb f x (.brk id y) 0
 |ret {x:X} {r:R}:f x=some (.ret r)->Cb f x (.ret r) 0
 |step {x y:X} {o:LO X R} {n:Nat}:f x=some (.next y)->Cb f y o n->Cb f x o (n+1)
noncomputable def Au{X R:Type}(f:X->Option (LO X R))(x:X):Option (LO X R):=@dite _ (∃o n,Cb f x o n) (Classical.propDecidable _) (fun h=>some (Classical.choose h)) fun _=>none
theorem Cb.det{X R:Type}{f:X->Option (LO X R)}: ∀ {x:X} {o o':LO X R} {n n':Nat},Cb f x o n->Cb f x o' n'->o=o'/\n=n':=by
 intro x o o' n n' h
 induction h generalizing o' n' with
 |brk h=>intro h';cases h' with
  |brk h'=>rw [h]at h';cases h';exact⟨rfl,rfl⟩
  |ret h'=>rw [h]at h';cases h'
  |step h' _=>rw [h]at h';cases h'
 |ret h=>intro h';cases h' with
  |brk h'=>rw [h]at h';cases h'
  |ret h'=>rw [h]at h';cases h';exact⟨rfl,rfl⟩
  |step h' _=>rw [h]at h';cases h'
 |step h _ ih=>intro h';cases h' with
  |brk h'=>rw [h]at h';cases h'
  |ret h'=>rw [h]at h';cases h'
  |step h' h2=>rw [h]at h';cases h';obtain⟨rfl,rfl⟩:=ih h2;exact⟨rfl,rfl⟩
theorem Cc{X R:Type}{f:X->Option (LO X R)}{x:X}{o:LO X R}:Au f x=some o↔ ∃n,Cb f x o n:=by
 unfold Au;split
 ·rename_i h
  obtain⟨n,hn⟩:=Classical.choose_spec h;constructor
  ·intro e;cases e;exact⟨n,hn⟩
  ·rintro ⟨n',h'⟩;rw [(hn.det h').1]
 ·rename_i h
  constructor
  ·intro e;cases e
  ·rintro ⟨n,hn⟩;exact absurd ⟨o,n,hn⟩ h
theorem A2{X R:Type}(f:X->Option (LO X R))(x:X):Au f x=(f x).bind fun o=>match o with
  | .next y=>Au f y
  | .brk id y=>some (.brk id y)
  | .ret r=>some (.ret r):=by
 cases hf:f x with
 |none=>
  show Au f x=none;cases h:Au f x with
  |none=>rfl
  |some o=>
   obtain⟨n,hn⟩:=Cc.1 h;cases hn with
   |brk h'=>rw [hf]at h';cases h'
   |ret h'=>rw [hf]at h';cases h'
   |step h' _=>rw [hf]at h';cases h'
 |some o=>
  cases o with
  |brk id y=>exact Cc.2 ⟨0,.brk hf⟩
  |ret r=>exact Cc.2 ⟨0,.ret hf⟩
  |next y=>
   show Au f x=Au f y;cases h:Au f y with
   |some o=>obtain⟨n,hn⟩:=Cc.1 h;exact Cc.2 ⟨n+1,.step hf hn⟩
   |none=>
    cases h2:Au f x with
    |none=>rfl
    |some o=>
     obtain⟨n,hn⟩:=Cc.1 h2;cases hn with
     |brk h'=>rw [hf]at h';cases h'
     |ret h'=>rw [hf]at h';cases h'
     |step h' h3=>rw [hf]at h';cases h';rw [Cc.2 ⟨_,h3⟩]at h;cases h
def Bc:List Ty->Ty
 | []=>.unit
 | [t]=>t
 |t::u::l=>.pair t (Bc (u::l))
def VY(t:Ty)(y:Dy):Option t.T:=if h:y.t=t then some (h▸y.x)else none
def toX:(tys:List Ty)->List Dy->Option (Bc tys).T
 | [],[]=>some ()
 | [t],[y]=>VY t y
 |t::u::l,y::ys=>match VY t y with
  |some x=>match toX (u::l) ys with
   |some z=>some (x,z)
   |none=>none
  |none=>none
 |_,_=>none
def ofX:(tys:List Ty)->(Bc tys).T->List Dy
 | [],_=>[]
 | [t],x=>[⟨t,x⟩]
 |t::u::l,x=>⟨t,x.1⟩::ofX (u::l) x.2
theorem VX{t:Ty}{y:Dy}{x:t.T}(h:VY t y=some x):(⟨t,x⟩:Dy)=y:=by
 unfold VY at h;split at h
 ·rename_i ht;subst ht;cases h;rfl
 ·cases h
theorem PM: ∀ (tys:List Ty) (cs:List Dy) (x:(Bc tys).T),toX tys cs=some x->ofX tys x=cs
 | [],[],x,h=>rfl
 | [t],[y],x,h=>by show [(⟨t,x⟩:Dy)]= [y];rw [VX h]
 |t::u::l,y::ys,x,h=>by
  have h:(match VY t y with
   |some x=>match toX (u::l) ys with
    |some z=>some (x,z)
    |none=>none
   |none=>none:Option (Bc (t::u::l)).T)=some x:=h
  split at h
  case h_2=>cases h
  rename_i x1 h1;split at h
  case h_2=>cases h
  rename_i z h2;cases h;show(⟨t,x1⟩:Dy)::ofX (u::l) z=_;rw [VX h1,PM (u::l) ys z h2]
 | [],_::_,_,h=>by cases h
 | [_],[],_,h=>by cases h
 | [_],_::_::_,_,h=>by cases h
 |_::_::_,[],_,h=>by cases h
structure Bh extends Env where
 lp:List (Nat×List Nat×List Nat)
 dn:List (Nat×Nat)
def Bq:Code->Nat
 | .region id _ _=>id
 | .seq a b=>match a with
  | .skip=>Bq b
  | .label _=>Bq b
  |a=>Bq a
 | .block _ b=>Bq b
 | .loop b=>Bq b
 | .scope b=>Bq b
 |_=>0
def AD:Code->List Oper
 | .region _ ops _=>ops.toList
 | .seq a b=>AD a++AD b
 | .cond _ a b=>AD a++AD b
 | .block _ b=>AD b
 | .loop b=>AD b
 | .scope b=>AD b
 |_=>[]
def Nh:Code->List Nat
 | .exit id=>[id]
 | .seq a b=>Nh a++Nh b
 | .cond _ a b=>Nh a++Nh b
 | .block id b=>(Nh b).filter fun i=>!Nat.beq i id
 | .loop b=>Nh b
 |_=>[]
def lookN{α:Type}(d:α):List (Nat×α)->Nat->α
 | [],_=>d
 |(i,x)::l,k=>bif Nat.beq i k then x else lookN d l k
def clId:Cl->List Nat
 | .rf id _=>[id]
 | .rp id _ _ _=>[id]
 | .rs id _ _ _=>[id]
 |_=>[]
def slId:Sl->List Nat
 | .one c=>clId c
 |_=>[]
def condN(s:St)(c:Nat):Bool:=bif Nat.ble 2000000 c then(match slId (s.t (c-2000000))with
 | []=>true
 |_=>false)else bif Nat.ble 1000000 c then(slId (s.t ((c-1000000)/1000))).any fun i=>Nat.beq i ((c-1000000) % 1000)else true
def Qo(s:St):List (Nat×List Nat×List Nat)->Nat->List Nat×List Nat
 | [],_=>([],[])
 |(i,L,R)::l,k=>bif Nat.beq i k then(bif R.all (condN s)then(L,R.filter fun c=>!Nat.ble 1000000 c)else Qo s l k)else Qo s l k
def VA(o:Oper):Bool:=match o.op with
 | .store _ _ _=>true
 |_=>false
def Zj(o:Oper):Bool:=match o.op with
 | .build _ _=>true
 | .buildSlice _ _ _=>true
 |_=>VA o
def VB(E:Env)(o:Oper):Bool:=VA o||match Vn E o with
 |some (.app _ _ _ _)=>true
 |some (.cw _ _ _)=>true
 |_=>false
def Uf:List Oper->Nat
 | []=>0
 |o::l=>match o.op with
  | .assign _=>Uf l+1
  |_=>0
def isNew(ops:Array Oper)(y:Nat):Bool:=ops.toList.any fun o=>match o.op,o.dst with
 | .alloc _,some d=>Nat.beq d y
 |_,_=>false
def isMade(ops:Array Oper)(y:Nat):Bool:=ops.toList.any fun o=>match o.dst with
 |some d=>Nat.beq d y&&(match o.op with
  | .buildSlice _ _ _=>true
  | .makeSlice _ _ _=>true
  |op=>(V6 op).isSome)
 |none=>false
def isLate(E:Env)(ops:Array Oper)(o:Oper):Bool:=match o.op with
 | .store _ (.tmp y) _=>!isNew ops y
 | .store _ _ _=>true
 |_=>match V6 o.op with
  |some (_,.tmp y,_)=>!isMade ops y
  |some _=>true
  |none=>VB E o
def headD(E:Env)(ops:Array Oper):Nat:=bif ops.toList.any (VB E)then ops.toList.findIdx (fun o=>Zj o||VB E o)else
 bif DS ops (ops.size-Uf ops.toList.reverse)then ops.size-Uf ops.toList.reverse else ops.size
def headN(E:Bh)(id:Nat)(ops:Array Oper):Nat:=lookN (bif DS ops (headD E.toEnv ops)then headD E.toEnv ops else ops.toList.findIdx (isLate E.toEnv ops)) E.dn id
def brkK{R:Type}(K:Exit->St->Option R):List Nat->Nat->St->Option R
 | [],_,_=>none
 |i::l,id,s=>nif id i (K (.exit i) s) (brkK K l id s)
@[reducible] def BT {X R:Type} (o:Option R):Option (LO X R):=o.map .ret
@[reducible] def LO.fin {X R:Type} (f:Nat->X->Option R):LO X R->Option R
 | .brk id x=>f id x
 | .ret r=>some r
 | .next _=>none
def Qw{R:Type}(L Rh:List Nat)(s:St)(keep:Nat)(tys:List Ty)(K:Exit->St->Option R)(e:Exit)(s':St):Option (LO (Bc tys).T R):=match e with
 | .normal=>match Xk L Rh s s' keep with
  |some cs=>match toX tys cs with
   |some x=>some (.next x)
   |none=>none
  |none=>none
 | .exit id=>match Xk L Rh s s' keep with
  |some cs=>match toX tys cs with
   |some x=>some (.brk id x)
   |none=>none
  |none=>none
 | .ret=>BT (K .ret s')
 |_=>none
def Xs{R:Type}(b:Code)(L Rh:List Nat)(s:St)(tys:List Ty)(K:Exit->St->Option R):LO (Bc tys).T R->Option R:=
 LO.fin fun id x=>brkK K (Nh b).eraseDups id (A4 false (AD b) L Rh s (ofX tys x))
def Hr(b:List Oper)(L Rh:List Nat)(s:St):Bool:=L.all (fun d=>!(Ak b d&&(s.t d).stay))&&Rh.all fun i=>!(s.r.getD i .dead).isRo
def Ls:List Nat->St->St
 | [],s=>s
 |id::l,s=>match s.r.getD id .dead with
  | .arr false (.sl u) d xs=>bif Nat.beq u.dep 0 then Ls l ⟨s.t,s.r.set id (.arr false (.osl u) d (JI xs))⟩else Ls l s
  |_=>Ls l s
def ozOf:List (Nat×Nat)->Nat->List Nat
 | [],_=>[]
 |(a,b)::l,k=>bif Nat.beq a (k+1000000)then b::ozOf l k else ozOf l k
theorem I7: ∀ (u:Ty) (d:Nat) (x:u.T),u.dep=0->∀c∈Ar u d x,∀ro,c.node ro= .dead
 | .int _,_,_,_,c,h,_=>by rw [List.mem_singleton.1 h];rfl
 | .bool,_,_,_,c,h,_=>by rw [List.mem_singleton.1 h];rfl
 | .str,_,_,_,c,h,_=>by rw [List.mem_singleton.1 h];rfl
 | .unit,_,_,_,c,h,_=>by cases h
 | .pair a b,d,x,hd,c,h,ro=>by
  simp only [Ty.dep]at hd;rcases List.mem_append.1 h with h|h
  ·exact I7 a d x.1 (by omega) c h ro
  ·exact I7 b d x.2 (by omega) c h ro
 | .sl _,_,_,h,_,_,_=>by simp [Ty.dep]at h
 | .ptr _,_,_,h,_,_,_=>by simp [Ty.dep]at h
 | .clo _ _,_,_,h,_,_,_=>by simp [Ty.dep]at h
 | .osl _,_,_,h,_,_,_=>by simp [Ty.dep]at h
theorem Pf{α:Type}(xs:List (List α))(i:Nat):(JI xs).getD i (some [])=some (xs.getD i []):=by
 unfold JI;simp only [gDE,List.getElem?_map];cases xs[i]? <;>rfl
theorem YZ{u:Ty}{d:Nat}{xs:List (List u.T)}:(Aa.arr false (.osl u) d (JI xs)).v=(Aa.arr false (.sl u) d xs).v:=by
 show arr true 1 (tyV (.osl u) d) (some []) (JI xs)=arr true 1 (tyV (.sl u) d) [] xs;unfold arr;have hl:(JI xs).length=xs.length:=by simp [JI]
 rw [hl]
 congr 1
 funext i k
 rw [Pf];rfl
theorem Vb{u:Ty}{d:Nat}{xs:List (List u.T)}(hu:u.dep=0): ∀q:AT,((Aa.arr false (.osl u) d (JI xs)).at' q).len=((Aa.arr false (.sl u) d xs).at' q).len
 | []=>by show(JI xs).length=xs.length;simp [JI]
 |(i,0)::q=>by
  show(((Cl.c (.osl u) d ((JI xs).getD i (some []))).node false).at' q).len=(((Cl.c (.sl u) d (xs.getD i [])).node false).at' q).len;rw [Pf];cases d with
  |zero=>rfl
  |succ d=>
   cases q with
   |nil=>rfl
   |cons a q=>
    obtain⟨i2,k2⟩:=a;show(((([]:List Cl).getD k2 .dead).node false).at' q).len=((((Ar u d ((xs.getD i []).getD i2 u.dflt)).getD k2 .dead).node false).at' q).len
    have e:((Ar u d ((xs.getD i []).getD i2 u.dflt)).getD k2 .dead).node false= .dead:=by
     by_cases hk:k2<(Ar u d ((xs.getD i []).getD i2 u.dflt)).length
     ·rw [gDE,gEE hk]
      exact I7 u d _ hu _ (List.getElem_mem hk) _
     ·rw [gDE,List.getElem?_eq_none (by omega)];rfl
    rw [e];rfl
 |(i,k+1)::q=>by
  have e1:(Aa.arr false (.osl u) d (JI xs)).at' ((i,k+1)::q)= .dead:=Ct q;have e2:(Aa.arr false (.sl u) d xs).at' ((i,k+1)::q)= .dead:=Ct q;rw [e1,e2]
theorem Cl.v_lens{r r':List Aa}(h: ∀id q,(Ab r' id q).len=(Ab r id q).len)(y:Cl):y.v r'=y.v r:=by
 cases y with
 |rf id p=>show V.rs id p 0 _=V.rs id p 0 _;rw [h]
 |_=>rfl
theorem Sl.v_lens{r r':List Aa}(h: ∀id q,(Ab r' id q).len=(Ab r id q).len)(y:Sl):y.v r'=y.v r:=by
 have e:Cl.v r'=Cl.v r:=funext fun c=>Cl.v_lens h c
 cases y with
 |one c=>exact Cl.v_lens h c
 |new l=>rfl
 |agg l=>show Ad _=Ad _;rw [e]
 |tup l=>show CV _=CV _;rw [e]
 |pk t l=>show pkL t _=pkL t _;rw [e]
theorem Hn: ∀ (l:List Nat) (s:St),(Ls l s).den=s.den/\∀g,Kp g s (Ls l s)
 | [],s=>⟨rfl,fun g=>Kp.refl _ _⟩
 |id::l,s=>by
  unfold Ls;split
  ·rename_i u d xs hr
   cases hb:Nat.beq u.dep 0 with
   |false=>exact Hn l s
   |true=>
    have hu:=bqE hb;obtain⟨h1,h2⟩:=Hn l ⟨s.t,s.r.set id (.arr false (.osl u) d (JI xs))⟩;have hid:id<s.r.length:=by
     rcases Nat.lt_or_ge id s.r.length with h|h
     ·exact h
     ·rw [gDE,List.getElem?_eq_none h]at hr;cases hr
    have hn: ∀id' q,(Ab (s.r.set id (.arr false (.osl u) d (JI xs))) id' q).len=(Ab s.r id' q).len:=by
     intro id' q;by_cases he:id'=id
     ·subst he
      unfold Ab;have e:(s.r.set id' (.arr false (.osl u) d (JI xs))).getD id' .dead= .arr false (.osl u) d (JI xs):=by simp [hid]
      rw [e,hr];exact Vb hu q
     ·rw [BI he]
    have hσ:(s.r.set id (.arr false (.osl u) d (JI xs))).map Aa.v=s.r.map Aa.v:=by
     rw [List.map_set,YZ,<-hr];apply List.ext_getElem?;intro i;rw [List.getElem?_set];split
     ·rename_i e
      subst e;simp [hid]
     ·rfl
    refine⟨?_,fun g=>?_⟩
    ·show(Ls l _).den=_
     rw [h1];unfold St.den;simp only [hσ]
     congr 1
     funext i
     exact Sl.v_lens hn _
    ·refine Kp.trans (s1:=⟨s.t,s.r.set id (.arr false (.osl u) d (JI xs))⟩) (g1:=g) (g2:=g) ⟨fun i _ _=>rfl,fun id' _ hro=>?_,by simp⟩ (h2 g) (fun _ h=>h) fun _ h=>h
     have hne:id≠id':=by
      rintro rfl
      rw [hr]at hro;cases hro
     simp only [gDE,List.getElem?_set_ne hne]
  ·exact Hn l s
noncomputable def Bz(H:Code->{R:Type}->St->(Exit->St->Option R)->Option R)(E:Bh):Code->{R:Type}->St->(Exit->St->Option R)->Option R
 | .skip,_,s,K=>K .normal s
 | .region _ ops false,_,s,K=>Wm E.toEnv ops (QZ ops.size ops.toList) s (K .normal)
 | .region id ops true,_,s,K=>Yt E.toEnv (headN E id ops) ops s (K .normal)
 | .seq a b,_,s,K=>Bz H E a s fun e s'=>match e with
  | .normal=>Bz H E b s' K
  | .exit id=>K (.exit id) s'
  | .ret=>K .ret s'
  | .goto l=>K (.goto l) s'
  |_=>none
 | .cond c x y,_,s,K=>match s.ev c with
  |some (.one (.c .bool _ b))=>Ov b (Bz H E x s K) (Bz H E y s K)
  |_=>none
 | .block id b,_,s,K=>Bz H E b s fun e s'=>match e with
  | .exit i=>bif Nat.beq i id then K .normal s' else K (.exit i) s'
  | .normal=>K .normal s'
  | .ret=>K .ret s'
  | .goto l=>K (.goto l) s'
  |_=>none
 | .loop b,R,s0,K=>match Ls (ozOf E.dn (Bq b)) s0 with
  |s=>match Qo s E.lp (Bq b)with
  |(L,Rh)=>bif Hr (AD b) L Rh s then(match Xk L Rh s s E.h.keep with
   |some cs=>match toX (cs.map (·.t)) cs with
    |some x=>H1 (Au (fun x=>Bz H E b (A4 true (AD b) L Rh s (ofX (cs.map (·.t)) x)) (Qw L Rh s E.h.keep (cs.map (·.t)) K)) x) (Xs b L Rh s (cs.map (·.t)) K)
    |none=>none
   |none=>none)else none
 | .exit id,_,s,K=>K (.exit id) s
 | .label _,_,s,K=>K .normal s
 | .goto l,_,s,K=>K (.goto l) s
 | .ret,_,s,K=>K .ret s
 | .scope c,_,s,K=>H c s K
 |_,_,_,_=>none
def Bj:Code->List Nat
 | .seq a b=>Bj a++Bj b
 | .label l=>[l]
 |_=>[]
def BF:Code->Nat->Option Code
 | .seq a b,l=>match a with
  | .label l'=>bif Nat.beq l' l then some b else BF b l
  |_=>BF b l
 |_,_=>none
def M1:List Nat->Bool
 | []=>true
 |a::l=>!l.contains a&&M1 l
theorem M0: ∀ {l:List Nat},M1 l=true->l.Nodup
 | [],_=>List.nodup_nil
 |a::l,h=>by
  have h:(!l.contains a&&M1 l)=true:=h;rw [bAE,Bool.not_eq_true']at h;exact List.nodup_cons.2 ⟨fun hm=>by rw [List.contains_eq_mem,decide_eq_false_iff_not]at h;exact h.1 hm,M0 h.2⟩
def Oe:Code->Bool
 | .label _=>true
 |_=>false
def Js:Code->Bool
 | .seq a b=>(Oe a||(Bj a).isEmpty)&&Js b
 |c=>(Bj c).isEmpty
@[reducible] def LO.fin1 {X R:Type}:LO X R->Option R
 | .ret r=>some r
 |_=>none
def QD{R:Type}(L Rh:List Nat)(s:St)(keep:Nat)(tys:List Ty)(l:Nat)(s':St):Option (LO (Nat×(Bc tys).T) R):=match Xk L Rh s s' keep with
 |some cs=>match toX tys cs with
  |some x=>some (.next (l,x))
  |none=>none
 |none=>none
def Zr{R:Type}(L Rh:List Nat)(s:St)(keep:Nat)(tys:List Ty)(K:Exit->St->Option R)(e:Exit)(s':St):Option (LO (Nat×(Bc tys).T) R):=match e with
 | .goto l=>QD L Rh s keep tys l s'
 | .normal=>BT (K .normal s')
 | .exit id=>BT (K (.exit id) s')
 | .ret=>BT (K .ret s')
 |_=>none
noncomputable def DK(E:Bh):Code->{R:Type}->St->(Exit->St->Option R)->(Nat->St->Option R)->Option R
 | .seq a b,_,s,K,KL=>match a with
  | .label l=>KL l s
  |a=>Bz (fun _ _ _ _=>none) E a s fun e s'=>match e with
   | .normal=>DK E b s' K KL
   | .exit id=>K (.exit id) s'
   | .ret=>K .ret s'
   | .goto l=>K (.goto l) s'
   |_=>none
 |c,_,s,K,_=>Bz (fun _ _ _ _=>none) E c s K
noncomputable def Ih(E:Bh)(c:Code)(ops:List Oper)(L Rh:List Nat)(s:St)(tys:List Ty){R:Type}(K:Exit->St->Option R)(l:Nat)(x:(Bc tys).T):List Nat->Option (LO (Nat×(Bc tys).T) R)
 | []=>none
 |i::ls=>nif l i (match BF c i with
  |some rest=>DK E rest (A4 true ops L Rh s (ofX tys x)) (Zr L Rh s E.h.keep tys K) (QD L Rh s E.h.keep tys)
  |none=>none) (Ih E c ops L Rh s tys K l x ls)
def XY{R:Type}(K:Exit->St->Option R)(e:Exit)(s:St):Option R:=match e with
 | .goto _=>none
 |e=>K e s
noncomputable def UJ(E:Bh)(c:Code){R:Type}(s:St)(K:Exit->St->Option R):Option R:=bif Js c&&M1 (Bj c)then DK E c s (XY K) fun l s1=>match BF c l with
  |some c1=>match Qo s1 E.lp (Bq c)with
   |(L,Rh)=>bif Hr (AD c1) L Rh s1 then(match Xk L Rh s1 s1 E.h.keep with
    |some cs=>match toX (cs.map (·.t)) cs with
     |some x=>H1 (Au (fun y=>Ih E c (AD c1) L Rh s1 (cs.map (·.t)) K y.1 y.2 (Bj c)) (l,x)) LO.fin1
     |none=>none
    |none=>none)else none
  |none=>none else none
noncomputable def WA(E:Bh):Code->{R:Type}->St->(Exit->St->Option R)->Option R:=Bz (UJ E) E
theorem Jk{t0:Nat->Sl}: ∀ (L:List Nat) (cs:List Dy) (t:Nat->Sl) (i:Nat),L.contains i=false->(JO t0 L cs t).1 i=t i
 | [],cs,t,i,_=>rfl
 |d::L,cs,t,i,h=>by
  rw [List.contains_cons,Bool.or_eq_false_iff]at h;unfold JO;rw [Jk L _ _ i h.2];have hne:i≠d:=by
   intro e;subst e;simp at h
  exact A0 hne
theorem HB{r0:List Aa}: ∀ (Rh:List Nat) (cs:List Dy) (r:List Aa) (i:Nat),Rh.contains i=false->(DY r0 Rh cs r).getD i .dead=r.getD i .dead
 | [],cs,r,i,_=>rfl
 |d::L,cs,r,i,h=>by
  rw [List.contains_cons,Bool.or_eq_false_iff]at h;unfold DY;rw [HB L _ _ i h.2];have hne:d≠i:=by
   intro e;subst e;simp at h
  simp only [gDE,List.getElem?_set_ne hne]
theorem HA{r0:List Aa}: ∀ (Rh:List Nat) (cs:List Dy) (r:List Aa),(DY r0 Rh cs r).length=r.length
 | [],cs,r=>rfl
 |d::L,cs,r=>by unfold DY;rw [HA L,List.length_set]
theorem Og{ro:Bool}{b:List Oper}{L Rh:List Nat}{s:St}{cs:List Dy}(h:Hr b L Rh s=true):Kp (Ak b) s (A4 ro b L Rh s cs):=by
 unfold Hr at h;rw [bAE]at h;refine⟨fun i hi hs=>?_,fun id hl hid=>?_,?_⟩
 ·have hc:L.contains i=false:=by
   cases hc:L.contains i with
   |false=>rfl
   |true=>
    have:=aET.1 h.1 i (by simpa using hc)
    rw [hi,hs]at this;cases this
  show(JO s.t L cs _).1 i=_;rw [Jk L _ _ i hc];show(bif Ak b i&&(s.t i).stay then s.t i else _)=_;rw [hi,hs];rfl
 ·have hc:Rh.contains id=false:=by
   cases hc:Rh.contains id with
   |false=>rfl
   |true=>
    have:=aET.1 h.2 id (by simpa using hc)
    rw [hid]at this;cases this
  show(DY s.r Rh _ (bif ro then s.r.map Bw else s.r)).getD id .dead=_;rw [HB Rh _ _ id hc];cases ro with
  |false=>rfl
  |true=>
   show(s.r.map Bw).getD id .dead=_
   have e:(s.r.map Bw).getD id .dead=Bw (s.r.getD id .dead):=by
    simp only [gDE,List.getElem?_map];cases s.r[id]? <;>rfl
   rw [e];generalize s.r.getD id .dead=x at hid;cases x with
   |dead=>rfl
   |obj ro l=>have hid:ro=true:=hid;subst hid;rfl
   |arr ro t d xs=>have hid:ro=true:=hid;subst hid;rfl
   |opt ro t d xs=>have hid:ro=true:=hid;subst hid;rfl
 ·show s.r.length<=(DY s.r Rh _ (bif ro then s.r.map Bw else s.r)).length
  rw [HA];cases ro<;>simp
theorem Ks{b:List Oper}{L Rh:List Nat}{s s':St}{cs:List Dy}(hk:Kp (Ak b) (A4 true b L Rh s cs) s'):
  (∀i,L.contains i=false->Ak b i=true->(s.t i).stay=true->s'.t i=s.t i)/\
  (∀id,id<s.r.length->Rh.contains id=false->(s'.r.getD id .dead).v=(s.r.getD id .dead).v/\(s'.r.getD id .dead).len=(s.r.getD id .dead).len)/\
  (∀id,id<s.r.length->Rh.contains id=false->∀q:AT,((s'.r.getD id .dead).at' q).len=((s.r.getD id .dead).at' q).len):=by
 have hR: ∀id,id<s.r.length->Rh.contains id=false->s'.r.getD id .dead=Bw (s.r.getD id .dead):=fun id hl hc=>by
  have e:(A4 true b L Rh s cs).r.getD id .dead=Bw (s.r.getD id .dead):=by
   show(DY s.r Rh _ (s.r.map Bw)).getD id .dead=_;rw [HB Rh _ _ id hc];simp only [gDE,List.getElem?_map];cases s.r[id]? <;>rfl
  have hro:(Bw (s.r.getD id .dead)).isRo=true:=by cases s.r.getD id .dead<;>rfl
  have hlen:(A4 true b L Rh s cs).r.length=s.r.length:=by
   show(DY s.r Rh _ (s.r.map Bw)).length=_;rw [HA,List.length_map]
  rw [hk.r id (by rw [hlen];exact hl) (by rw [e];exact hro),e]
 refine⟨fun i hc hi hs=>?_,fun id hl hc=>?_,fun id hl hc q=>by rw [hR id hl hc];exact Xz q _ _ (IR _)⟩
 ·have e:(A4 true b L Rh s cs).t i=s.t i:=by
   show(JO s.t L cs _).1 i=_;rw [Jk L _ _ i hc];show(bif Ak b i&&(s.t i).stay then s.t i else _)=_;rw [hi,hs];rfl
  rw [hk.t i hi (by rw [e];exact hs),e]
 ·have e:(A4 true b L Rh s cs).r.getD id .dead=Bw (s.r.getD id .dead):=by
   show(DY s.r Rh _ (s.r.map Bw)).getD id .dead=_;rw [HB Rh _ _ id hc];simp only [gDE,List.getElem?_map];cases s.r[id]? <;>rfl
  have hro:(Bw (s.r.getD id .dead)).isRo=true:=by cases s.r.getD id .dead<;>rfl
  have hlen:(A4 true b L Rh s cs).r.length=s.r.length:=by
   show(DY s.r Rh _ (s.r.map Bw)).length=_;rw [HA,List.length_map]
  rw [hk.r id (by rw [hlen];exact hl) (by rw [e];exact hro),e]
  exact Ld _
theorem Nx{R:Type}{K:Exit->St->Option R}{z:R}{s:St}: ∀ (l:List Nat) (id:Nat),brkK K l id s=some z->K (.exit id) s=some z
 | [],id,h=>by cases h
 |i::l,id,h=>by
  have h:(if id=i then K (.exit i) s else brkK K l id s)=some z:=h
  split at h
  ·rename_i e;subst e;exact h
  ·exact Nx l id h
theorem Y8{P:Program}{H:Code->{R:Type}->St->(Exit->St->Option R)->Option R}{E:Bh}{C:Ctx}(hkeep:C.m<=E.h.keep){b:Code}
  (ih: ∀ {R:Type} (s:St) (K:Exit->St->Option R) (z:R) (Q:Exit->Act->World->Prop) (a:Act) (w:World),AU C E.h.n s.den a w->Bz H E b s K=some z->(∀e s' a' w',Kp (Ak (AD b)) s s'->AU C E.h.n s'.den a' w'->K e s'=some z->Q e a' w')->b.wp P Q a w)
  {R:Type} {s:St} {K:Exit->St->Option R} {z:R} {Q:Exit->Act->World->Prop} {a:Act} {w:World} (hs:AU C E.h.n s.den a w) {L Rh:List Nat} (hok:Hr (AD b) L Rh s=true) {tys:List Ty} {cs:List Dy} (hcs:Xk L Rh s s E.h.keep=some cs) {x0:(Bc tys).T} (hx0':ofX tys x0=cs)
  (h:(Au (fun x=>Bz H E b (A4 true (AD b) L Rh s (ofX tys x)) (Qw L Rh s E.h.keep tys K)) x0).bind (Xs b L Rh s tys K)=some z)
  (hQ: ∀e s' a' w',Kp (Ak (AD b)) s s'->AU C E.h.n s'.den a' w'->K e s'=some z->Q e a' w'):(Code.loop b).wp P Q a w:=by
 obtain⟨hd0,hdd0,D0,ρ0,F0,hcr0⟩:=id hs;have hml:C.m<=s.r.length:=by have:=hcr0.ml;simpa [St.den]using this
 let body:(Bc tys).T->Option (LO (Bc tys).T R):=fun x=>Bz H E b (A4 true (AD b) L Rh s (ofX tys x)) (Qw L Rh s E.h.keep tys K)
 have h:(Au body x0).bind (Xs b L Rh s tys K)=some z:=h;cases hl:Au body x0 with
 |none=>rw [hl]at h;cases h
 |some o0=>
  rw [hl]at h;have h:Xs b L Rh s tys K o0=some z:=h;obtain⟨n0,hn0⟩:=Cc.1 hl
  have h0:AU C E.h.n (A4 true (AD b) L Rh s (ofX tys x0)).den a w:=by
   rw [hx0'];exact Jj hs hcs hkeep hml (fun _ _ _ _=>rfl) (fun _ _ _=>⟨rfl,rfl⟩) fun _ _ _ _=>rfl
  let I':Act->World->Prop:=fun a w=>∃x n o,Cb body x o n/\Xs b L Rh s tys K o=some z/\AU C E.h.n (A4 true (AD b) L Rh s (ofX tys x)).den a w
  have hmin: ∀ (a:Act) (w:World),∃k,I' a w->(∃x n o,Cb body x o n/\Xs b L Rh s tys K o=some z/\AU C E.h.n (A4 true (AD b) L Rh s (ofX tys x)).den a w/\n=k)/\∀x n o,Cb body x o n->Xs b L Rh s tys K o=some z->AU C E.h.n (A4 true (AD b) L Rh s (ofX tys x)).den a w->k<=n:=by
   intro a w;by_cases hI:I' a w
   ·obtain⟨x,n,o,g1,g2,g3⟩:=hI
    obtain⟨k,hk,hlt⟩:=Xd (p:=fun k=>∃x n o,Cb body x o n/\Xs b L Rh s tys K o=some z/\AU C E.h.n (A4 true (AD b) L Rh s (ofX tys x)).den a w/\n=k) ⟨n,x,n,o,g1,g2,g3,rfl⟩
    exact⟨k,fun _=>⟨hk,fun x n o g1 g2 g3=>Nat.le_of_not_lt fun hl=>hlt n hl ⟨x,n,o,g1,g2,g3,rfl⟩⟩⟩
   ·exact⟨0,fun h=>absurd h hI⟩
  let μ':Act->World->Nat:=fun a w=>Classical.choose (hmin a w)
  have hμ':=fun a w hI=>Classical.choose_spec (hmin a w) hI
  refine wp_loop I' μ' ⟨x0,n0,o0,hn0,h,h0⟩ fun a w hI=>?_
  obtain⟨⟨x,n,o,g1,g2,g3,hn⟩,_⟩:=hμ' a w hI;have hn:n=μ' a w:=hn
  -- the round's own answer
  have hround: ∃lo,body x=some lo/\((∃y n',lo= .next y/\Cb body y o n'/\n=n'+1)\/(lo=o)):=by
   cases g1 with
   |brk h'=>exact⟨_,h',.inr rfl⟩
   |ret h'=>exact⟨_,h',.inr rfl⟩
   |step h' h2=>exact⟨_,h',.inl ⟨_,_,rfl,h2,rfl⟩⟩
  obtain⟨lo,hlo,hcase⟩:=hround;refine ih _ _ lo _ a w g3 hlo fun e s' a' w' hk hs' hz=>?_
  obtain⟨f1,f2,f3⟩:=Ks hk;have hk0:Kp (Ak (AD b)) s s':=Kp.trans (Og hok) hk (fun _ h=>h) fun _ h=>h
  cases e with
  |normal=>
   unfold Qw at hz;simp only at hz;split at hz
   case h_2=>cases hz
   rename_i cs2 hcs2;split at hz
   case h_2=>cases hz
   rename_i x2 hx2;cases hz;rcases hcase with⟨y,n',he,hl2,hnn⟩|he
   ·cases he
    have hs2:AU C E.h.n (A4 true (AD b) L Rh s (ofX tys x2)).den a' w':=by
     rw [PM _ _ _ hx2];exact Jj hs' hcs2 hkeep hml f1 f2 f3
    have hI2:I' a' w':=⟨x2,n',o,hl2,g2,hs2⟩;refine⟨hI2,?_⟩;have:=(hμ' a' w' hI2).2 x2 n' o hl2 g2 hs2;have:μ' a' w'<=n':=this;omega
   ·subst he
    cases g2
  |exit id=>
   unfold Qw at hz;simp only at hz;split at hz
   case h_2=>cases hz
   rename_i cs2 hcs2;split at hz
   case h_2=>cases hz
   rename_i x2 hx2;cases hz;rcases hcase with⟨y,n',he,_⟩|he
   ·cases he
   ·subst he
    have g2:brkK K (Nh b).eraseDups id (A4 false (AD b) L Rh s (ofX tys x2))=some z:=g2
    have hs2:AU C E.h.n (A4 false (AD b) L Rh s (ofX tys x2)).den a' w':=by
     rw [PM _ _ _ hx2];exact Jj hs' hcs2 hkeep hml f1 f2 f3
    exact hQ _ _ _ _ (Og hok) hs2 (Nx _ _ g2)
  |ret=>
   have hz:(K .ret s').map LO.ret=some lo:=hz;cases hkr:K .ret s' with
   |none=>rw [hkr]at hz;cases hz
   |some r=>
    rw [hkr]at hz;cases hz;rcases hcase with⟨y,n',he,_⟩|he
    ·cases he
    ·subst he
     cases g2;exact hQ _ _ _ _ hk0 hs' hkr
  |goto l=>cases hz
  |panic ch=>cases hz
  |outgrown=>cases hz
def JF(P:Program)(E:Bh)(C:Ctx)(H:Code->{R:Type}->St->(Exit->St->Option R)->Option R):Prop:=
 ∀ (c:Code) {R:Type} (s:St) (K:Exit->St->Option R) (z:R) (Q:Exit->Act->World->Prop) (a:Act) (w:World),AU C E.h.n s.den a w->H c s K=some z->
  (∀e s' a' w',Kp (Ak (AD c)) s s'->AU C E.h.n s'.den a' w'->K e s'=some z->Q e a' w')->(Code.scope c).wp P Q a w
theorem Mc{P:Program}{H:Code->{R:Type}->St->(Exit->St->Option R)->Option R}{E:Bh}{C:Ctx}(hE:EOK P E.toEnv)(hm:P.follows .mixedOrders=true)(hkeep:C.m<=E.h.keep)(hH:JF P E C H): ∀ (c:Code) {R:Type} (s:St) (K:Exit->St->Option R) (z:R) (Q:Exit->Act->World->Prop) (a:Act) (w:World),AU C E.h.n s.den a w->Bz H E c s K=some z->
  (∀e s' a' w',Kp (Ak (AD c)) s s'->AU C E.h.n s'.den a' w'->K e s'=some z->Q e a' w')->c.wp P Q a w:=by
 intro c
 induction c with
 |skip=>intro R s K z Q a w hs h hQ;exact wp_skip (hQ _ _ _ _ (Kp.refl _ _) hs h)
 |region id ops draw=>
  intro R s K z Q a w hs h hQ;cases draw with
  |false=>
   have h:Wm E.toEnv ops (QZ ops.size ops.toList) s (K .normal)=some z:=h;refine wp_region_list ?_;have:=Ug hE (ops:=ops) (Q:=Q) _ s a w hs h fun s' a' w' hk hs' hz=>hQ .normal s' a' w' (by rw [B2]at hk;exact hk) hs' hz
   rw [B2]at this;exact this
  |true=>exact WB hE hm hs h fun s' a' w' hk hs' hz=>hQ .normal s' a' w' hk hs' hz
 |seq x y ihx ihy=>
  intro R s K z Q a w hs h hQ
  have hsp: ∀i,Ak (AD (.seq x y)) i=true->Ak (AD x) i=true/\Ak (AD y) i=true:=fun i hi=>by
   have hi:Ak (AD x++AD y) i=true:=hi;rw [Dt,bAE]at hi;exact hi
  refine wp_seq (ihx s _ z _ a w hs h fun e s' a' w' hk hs' hz=>?_)
  have hk':Kp (Ak (AD (.seq x y))) s s':=hk.weak fun i hi=>(hsp i hi).1
  cases e with
  |normal=>exact ihy s' K z Q a' w' hs' hz fun e2 s2 a2 w2 hk2 hs2 hz2=>hQ e2 s2 a2 w2 (hk.trans hk2 (fun i hi=>(hsp i hi).1) fun i hi=>(hsp i hi).2) hs2 hz2
  |exit id=>exact hQ _ _ _ _ hk' hs' hz
  |ret=>exact hQ _ _ _ _ hk' hs' hz
  |goto l=>exact hQ _ _ _ _ hk' hs' hz
  |panic ch=>cases hz
  |outgrown=>cases hz
 |cond c x y ihx ihy=>
  intro R s K z Q a w hs h hQ
  have hsp: ∀i,Ak (AD (.cond c x y)) i=true->Ak (AD x) i=true/\Ak (AD y) i=true:=fun i hi=>by
   have hi:Ak (AD x++AD y) i=true:=hi;rw [Dt,bAE]at hi;exact hi
  have h:(match s.ev c with
   |some (.one (.c .bool _ b))=>bif b then Bz H E x s K else Bz H E y s K
   |_=>none)=some z:=h
  split at h
  ·rename_i d b hb
   obtain⟨hdd,D,ρ,F,hcr⟩:=hs.2;have h1:=B9 hcr hdd c;rw [A3 hb]at h1;refine wp_cond (t:=b) h1.1 ?_;cases b with
   |true=>exact ihx s K z Q a w hs h fun e s' a' w' hk=>hQ e s' a' w' (hk.weak fun i hi=>(hsp i hi).1)
   |false=>exact ihy s K z Q a w hs h fun e s' a' w' hk=>hQ e s' a' w' (hk.weak fun i hi=>(hsp i hi).2)
  ·cases h
 |block id b ih=>
  intro R s K z Q a w hs h hQ;refine wp_block (ih s _ z _ a w hs h fun e s' a' w' hk hs' hz=>?_)
  cases e with
  |exit id'=>
   simp only [Exit.inBlock];have hz:(bif Nat.beq id' id then K .normal s' else K (.exit id') s')=some z:=hz;by_cases he:id'=id
   ·subst he
    rw [Nat.beq_refl]at hz;rw [if_pos rfl];exact hQ _ _ _ _ hk hs' hz
   ·rw [Bt he]at hz
    rw [if_neg he];exact hQ _ _ _ _ hk hs' hz
  |normal=>exact hQ _ _ _ _ hk hs' hz
  |ret=>exact hQ _ _ _ _ hk hs' hz
  |goto l=>exact hQ _ _ _ _ hk hs' hz
  |panic ch=>cases hz
  |outgrown=>cases hz
 |loop b ih=>
  intro R s0 K z Q a w hs h hQ;unfold Bz at h;obtain⟨s,hso⟩: ∃s,s=Ls (ozOf E.dn (Bq b)) s0:=⟨_,rfl⟩;rw [<-hso]at h;obtain⟨hden,hkp⟩:=Hn (ozOf E.dn (Bq b)) s0;rw [<-hso]at hden hkp;rw [<-hden]at hs;have hQ: ∀e s' a' w',Kp (Ak (AD (.loop b))) s s'->AU C E.h.n s'.den a' w'->K e s'=some z->Q e a' w':=fun e s' a' w' hk=>hQ e s' a' w' ((hkp _).trans hk (fun _ h=>h) fun _ h=>h)
  have h:(match Qo s E.lp (Bq b)with
   |(L,Rh)=>bif Hr (AD b) L Rh s then(match Xk L Rh s s E.h.keep with
    |some cs=>match toX (cs.map (·.t)) cs with
     |some x=>H1 (Au (fun x=>Bz H E b (A4 true (AD b) L Rh s (ofX (cs.map (·.t)) x)) (Qw L Rh s E.h.keep (cs.map (·.t)) K)) x) (Xs b L Rh s (cs.map (·.t)) K)
     |none=>none
    |none=>none)else none)=some z:=h
  split at h
  rename_i L Rh hlp;cases hok:Hr (AD b) L Rh s with
  |false=>rw [hok]at h;cases h
  |true=>
   rw [hok]at h;simp only [cond_true]at h;split at h
   case h_2=>cases h
   rename_i cs hcs;split at h
   case h_2=>cases h
   rename_i x0 hx0;have hx0':=PM _ _ _ hx0;exact Y8 hkeep ih hs hok hcs hx0' h hQ
 |exit id=>intro R s K z Q a w hs h hQ;exact wp_exit (hQ _ _ _ _ (Kp.refl _ _) hs h)
 |label l=>intro R s K z Q a w hs h hQ;exact wp_label (hQ _ _ _ _ (Kp.refl _ _) hs h)
 |ret=>intro R s K z Q a w hs h hQ;exact wp_ret (hQ _ _ _ _ (Kp.refl _ _) hs h)
 |goto l=>intro R s K z Q a w hs h hQ;exact wp_goto (hQ _ _ _ _ (Kp.refl _ _) hs h)
 |rangeFunc f ps x y _ _=>intro R s K z Q a w hs h hQ;cases h
 |scope c _=>intro R s K z Q a w hs h hQ;exact hH c s K z Q a w hs h hQ
 |refuse s=>intro R s K z Q a w hs h hQ;cases h
theorem KT{P:Program}{a:Act}{w:World}{Q:Exit->Act->World->Prop}{c:Code}(J:Nat->Act->World->Prop)(μ:Nat->Act->World->Nat)
  (first:c.wp P (fun e a w=>match e with
   | .goto l=>(∃r,findLabel c l=some r)/\J l a w
   |e=>Q e a w) a w)
  (pass: ∀l r a w,findLabel c l=some r->J l a w->r.wp P (fun e a' w'=>match e with
   | .goto l'=>(∃r',findLabel c l'=some r')/\J l' a' w'/\μ l' a' w'<μ l a w
   |e=>Q e a' w') a w):(Code.scope c).wp P Q a w:=by
 intro b k cs;have hg: ∀l r,findLabel c l=some r->gotoIn l (.inScope c::k)=some (.code r:: .inScope c::k):=fun l r hf=>by simp [gotoIn,hf]
 have key: ∀n l r a w,findLabel c l=some r->μ l a w=n->J l a w->∃e a' w',Q e a' w'/\Arrives P (lone (b.at a (.code r:: .inScope c::k)) cs w) b k cs e a' w':=by
  intro n
  induction n using Nat.strongRecOn with
  |_ n ih=>
   intro l r a w hf hn hJ;obtain⟨e,a₁,w₁,hq,harr⟩:=pass l r a w hf hJ b (.inScope c::k) cs;cases e with
   |normal=>exact⟨.normal,a₁,w₁,hq,Steps.trans harr (.one step_inScope)⟩
   |exit id=>exact⟨.exit id,a₁,w₁,hq,fun k' hk=>harr k' (by simp [exitTo,hk])⟩
   |goto l'=>
    obtain⟨⟨r',hf'⟩,hJ',hlt⟩:=hq;obtain⟨e₂,a₂,w₂,hq₂,harr₂⟩:=ih _ (by omega) l' r' a₁ w₁ hf' rfl hJ'
    exact⟨e₂,a₂,w₂,hq₂,.of_steps (harr _ (hg l' r' hf')) harr₂⟩
   |ret=>exact⟨_,a₁,w₁,hq,harr⟩
   |panic ch=>exact⟨_,a₁,w₁,hq,harr⟩
   |outgrown=>exact⟨_,a₁,w₁,hq,harr⟩
 obtain⟨e,a₁,w₁,hq,harr⟩:=first b (.inScope c::k) cs
 cases e with
 |normal=>exact⟨.normal,a₁,w₁,hq,.head step_scope (Steps.trans harr (.one step_inScope))⟩
 |exit id=>exact⟨.exit id,a₁,w₁,hq,fun k' hk=>.head step_scope (harr k' (by simp [exitTo,hk]))⟩
 |goto l'=>
  obtain⟨⟨r',hf'⟩,hJ'⟩:=hq;obtain⟨e₂,a₂,w₂,hq₂,harr₂⟩:=key _ l' r' a₁ w₁ hf' rfl hJ';exact⟨e₂,a₂,w₂,hq₂,.of_steps (.head step_scope (harr _ (hg l' r' hf'))) harr₂⟩
 |ret=>exact⟨_,a₁,w₁,hq,.of_steps (.one step_scope) harr⟩
 |panic ch=>exact⟨_,a₁,w₁,hq,.of_steps (.one step_scope) harr⟩
 |outgrown=>exact⟨_,a₁,w₁,hq,.of_steps (.one step_scope) harr⟩
theorem CJ{a b:Code}(h: ¬∃l,a= .label l)(l:Nat):BF (.seq a b) l=BF b l:=by
 cases a<;>first|rfl|exact absurd ⟨_,rfl⟩ h
theorem PN{E:Bh}{a b:Code}(h: ¬∃l,a= .label l){R:Type}(s:St)(K:Exit->St->Option R)(KL:Nat->St->Option R):DK E (.seq a b) s K KL=Bz (fun _ _ _ _=>none) E a s fun e s'=>match e with
   | .normal=>DK E b s' K KL
   | .exit id=>K (.exit id) s'
   | .ret=>K .ret s'
   | .goto l=>K (.goto l) s'
   |_=>none:=by
 cases a<;>first|rfl|exact absurd ⟨_,rfl⟩ h
theorem DW: ∀ (c:Code) (l:Nat),(Bj c).isEmpty=true->findLabel c l=none
 | .seq a b,l,h=>by
  have h:(Bj a++Bj b).isEmpty=true:=h;rw [List.isEmpty_iff,List.append_eq_nil_iff]at h;have h:(Bj a).isEmpty=true/\(Bj b).isEmpty=true:=⟨by rw [h.1];rfl,by rw [h.2];rfl⟩
  unfold findLabel;rw [DW a l h.1,DW b l h.2]
 | .label l',l,h=>by cases h
 | .skip,_,_=>rfl
 | .region ..,_,_=>rfl
 | .cond ..,_,_=>rfl
 | .block ..,_,_=>rfl
 | .loop ..,_,_=>rfl
 | .exit ..,_,_=>rfl
 | .goto ..,_,_=>rfl
 | .ret,_,_=>rfl
 | .scope ..,_,_=>rfl
 | .rangeFunc ..,_,_=>rfl
 | .refuse ..,_,_=>rfl
theorem Iy{P:Program}: ∀ (c b:Code) (l:Nat),Js c=true->BF c l=some b->∃r,findLabel c l=some r/\∀Q a w,b.wp P Q a w->r.wp P Q a w
 | .seq a b',b,l,hc,h=>by
  have hc:((Oe a||(Bj a).isEmpty)&&Js b')=true:=hc;rw [bAE,Bool.or_eq_true]at hc;by_cases hl: ∃l',a= .label l'
  ·obtain⟨l',rfl⟩:=hl
   have h:(bif Nat.beq l' l then some b' else BF b' l)=some b:=h;cases he:Nat.beq l' l with
   |true=>
    rw [he]at h;have e:l'=l:=bqE he;subst e;obtain rfl:b'=b:=Option.some.inj h;exact⟨.seq .skip b',by simp [findLabel],fun Q a w hw=>wp_seq (wp_skip hw)⟩
   |false=>
    rw [he]at h;obtain⟨r,h1,h2⟩:=Iy b' b l hc.2 h;refine⟨r,?_,h2⟩;have e:l'≠l:=fun e=>by subst e;rw [Nat.beq_refl]at he;cases he
    simp [findLabel,e,h1]
  ·rw [CJ hl]at h
   obtain⟨r,h1,h2⟩:=Iy b' b l hc.2 h;refine⟨r,?_,h2⟩;have hn:findLabel a l=none:=by
    rcases hc.1 with h'|h'
    ·exfalso
     unfold Oe at h';split at h'
     ·exact hl ⟨_,rfl⟩
     ·cases h'
    ·exact DW a l h'
   unfold findLabel;rw [hn,h1]
 | .label ..,_,_,_,h=>by cases h
 | .skip,_,_,_,h=>by cases h
 | .region ..,_,_,_,h=>by cases h
 | .cond ..,_,_,_,h=>by cases h
 | .block ..,_,_,_,h=>by cases h
 | .loop ..,_,_,_,h=>by cases h
 | .exit ..,_,_,_,h=>by cases h
 | .goto ..,_,_,_,h=>by cases h
 | .ret,_,_,_,h=>by cases h
 | .scope ..,_,_,_,h=>by cases h
 | .rangeFunc ..,_,_,_,h=>by cases h
 | .refuse ..,_,_,_,h=>by cases h
def Kx:Code->Option Nat
 | .seq a b=>match a with
  | .label l=>some l
  |_=>Kx b
 |_=>none
theorem Kw{a b:Code}(h: ¬∃l,a= .label l):Kx (.seq a b)=Kx b:=by
 cases a<;>first|rfl|exact absurd ⟨_,rfl⟩ h
theorem NT{b r:Code}{l i:Nat}: ∀ {c:Code},Kx c=some l->BF c l=some b->BF c i=some r->(i=l/\r=b)\/BF b i=some r:=by
 intro c
 induction c with
 |seq a b' iha ihb=>
  intro h1 h2 h3;by_cases hl: ∃l',a= .label l'
  ·obtain⟨l',rfl⟩:=hl
   have h1:some l'=some l:=h1;cases h1;have h2:(bif Nat.beq l l then some b' else BF b' l)=some b:=h2;rw [Nat.beq_refl]at h2;obtain rfl:b'=b:=Option.some.inj h2;have h3:(bif Nat.beq l i then some b' else BF b' i)=some r:=h3;cases he:Nat.beq l i with
   |true=>rw [he]at h3;cases h3;exact .inl ⟨(bqE he).symm,rfl⟩
   |false=>rw [he]at h3;exact .inr h3
  ·have e1:=Kw (b:=b') hl
   have e2:=CJ (b:=b') hl;rw [e1]at h1;rw [e2]at h2 h3;exact ihb h1 h2 h3
 |_=>intro h1;cases h1
theorem IY{i:Nat}: ∀ (c b:Code) (l:Nat),BF c l=some b->Ak (AD c) i=true->Ak (AD b) i=true:=by
 intro c
 induction c with
 |seq a b' iha ihb=>
  intro b l h hi;have hi:Ak (AD a++AD b') i=true:=hi;rw [Dt,bAE]at hi;by_cases hl: ∃l',a= .label l'
  ·obtain⟨l',rfl⟩:=hl
   have h:(bif Nat.beq l' l then some b' else BF b' l)=some b:=h;cases he:Nat.beq l' l with
   |true=>rw [he]at h;cases h;exact hi.2
   |false=>rw [he]at h;exact ihb b l h hi.2
  ·rw [CJ hl]at h;exact ihb b l h hi.2
 |_=>intro b l h;cases h
theorem JF.none{P:Program}{E:Bh}{C:Ctx}:JF P E C (fun _ _ _ _=>.none):=fun _ _ _ _ _ _ _ _ _ h=>by cases h
theorem Mb{P:Program}{E:Bh}{C:Ctx}(hE:EOK P E.toEnv)(hm:P.follows .mixedOrders=true)(hkeep:C.m<=E.h.keep): ∀ (c:Code) {R:Type} (s:St) (K:Exit->St->Option R) (KL:Nat->St->Option R) (z:R) (Q:Exit->Act->World->Prop) (a:Act) (w:World),AU C E.h.n s.den a w->DK E c s K KL=some z->
  (∀e s' a' w',Kp (Ak (AD c)) s s'->AU C E.h.n s'.den a' w'->K e s'=some z->Q e a' w')->
  (∀l b s' a' w',Kp (Ak (AD c)) s s'->AU C E.h.n s'.den a' w'->KL l s'=some z->Kx c=some l->BF c l=some b->b.wp P Q a' w')->c.wp P Q a w:=by
 have base: ∀ (c:Code) {R:Type} (s:St) (K:Exit->St->Option R) (z:R) (Q:Exit->Act->World->Prop) (a:Act) (w:World),AU C E.h.n s.den a w->Bz (fun _ _ _ _=>.none) E c s K=some z->
  (∀e s' a' w',Kp (Ak (AD c)) s s'->AU C E.h.n s'.den a' w'->K e s'=some z->Q e a' w')->c.wp P Q a w:=Mc hE hm hkeep JF.none
 intro c
 induction c with
 |seq x y ihx ihy=>
  intro R s K KL z Q a w hs h hQ hL
  have hsp: ∀i,Ak (AD (.seq x y)) i=true->Ak (AD x) i=true/\Ak (AD y) i=true:=fun i hi=>by
   have hi:Ak (AD x++AD y) i=true:=hi;rw [Dt,bAE]at hi;exact hi
  by_cases hl: ∃l,x= .label l
  ·obtain⟨l,rfl⟩:=hl
   have h:KL l s=some z:=h;exact wp_seq (wp_label (hL l y s a w (Kp.refl _ _) hs h rfl (by show(bif Nat.beq l l then some y else BF y l)=_;rw [Nat.beq_refl];rfl)))
  ·have h:Bz (fun _ _ _ _=>.none) E x s (fun e s'=>match e with
    | .normal=>DK E y s' K KL
    | .exit id=>K (.exit id) s'
    | .ret=>K .ret s'
    | .goto l=>K (.goto l) s'
    |_=>.none)=some z:=(PN hl s K KL).symm.trans h
   have e1:=Kw (b:=y) hl;have e2:=CJ (b:=y) hl;refine wp_seq (base x s _ z _ a w hs h fun e s' a' w' hk hs' hz=>?_)
   have hk':Kp (Ak (AD (.seq x y))) s s':=hk.weak fun i hi=>(hsp i hi).1
   cases e with
   |normal=>
    exact ihy s' K KL z Q a' w' hs' hz (fun e2 s2 a2 w2 hk2 hs2 hz2=>hQ e2 s2 a2 w2 (hk.trans hk2 (fun i hi=>(hsp i hi).1) fun i hi=>(hsp i hi).2) hs2 hz2)
     fun l b s2 a2 w2 hk2 hs2 hz2 h1 h2=>hL l b s2 a2 w2 (hk.trans hk2 (fun i hi=>(hsp i hi).1) fun i hi=>(hsp i hi).2) hs2 hz2 (e1.trans h1) ((e2 l).trans h2)
   |exit id=>exact hQ _ _ _ _ hk' hs' hz
   |ret=>exact hQ _ _ _ _ hk' hs' hz
   |goto l=>exact hQ _ _ _ _ hk' hs' hz
   |panic ch=>cases hz
   |outgrown=>cases hz
 |skip=>intro R s K KL z Q a w hs h hQ _;exact base _ s K z Q a w hs h hQ
 |region=>intro R s K KL z Q a w hs h hQ _;exact base _ s K z Q a w hs h hQ
 |cond=>intro R s K KL z Q a w hs h hQ _;exact base _ s K z Q a w hs h hQ
 |block=>intro R s K KL z Q a w hs h hQ _;exact base _ s K z Q a w hs h hQ
 |loop=>intro R s K KL z Q a w hs h hQ _;exact base _ s K z Q a w hs h hQ
 |exit=>intro R s K KL z Q a w hs h hQ _;exact base _ s K z Q a w hs h hQ
 |label=>intro R s K KL z Q a w hs h hQ _;exact base _ s K z Q a w hs h hQ
 |ret=>intro R s K KL z Q a w hs h hQ _;exact base _ s K z Q a w hs h hQ
 |goto=>intro R s K KL z Q a w hs h hQ _;exact base _ s K z Q a w hs h hQ
 |rangeFunc=>intro R s K KL z Q a w hs h hQ _;exact base _ s K z Q a w hs h hQ
 |scope=>intro R s K KL z Q a w hs h hQ _;exact base _ s K z Q a w hs h hQ
 |refuse=>intro R s K KL z Q a w hs h hQ _;exact base _ s K z Q a w hs h hQ
theorem IX{E:Bh}{c:Code}{ops:List Oper}{L Rh:List Nat}{s:St}{tys:List Ty}{R:Type}{K:Exit->St->Option R}{l:Nat}{x:(Bc tys).T}{o:LO (Nat×(Bc tys).T) R}: ∀ (ls:List Nat),Ih E c ops L Rh s tys K l x ls=some o->
  ∃r,BF c l=some r/\DK E r (A4 true ops L Rh s (ofX tys x)) (Zr L Rh s E.h.keep tys K) (QD L Rh s E.h.keep tys)=some o
 | [],h=>by cases h
 |i::ls,h=>by
  have h:(if l=i then(match BF c i with
   |some rest=>DK E rest (A4 true ops L Rh s (ofX tys x)) (Zr L Rh s E.h.keep tys K) (QD L Rh s E.h.keep tys)
   | .none=>.none)else Ih E c ops L Rh s tys K l x ls)=some o:=h
  split at h
  ·rename_i e
   subst e;split at h
   ·rename_i r hr;exact⟨r,hr,h⟩
   ·cases h
  ·exact IX ls h
theorem UN{X R:Type}{o:Option R}{lo:LO X R}(h:BT o=some lo): ∃z,o=some z/\lo= .ret z:=by
 cases o with
 |none=>cases h
 |some z=>cases h;exact⟨z,rfl,rfl⟩
theorem UO: ∀ {c b:Code} {l:Nat},BF c l=some b->l∈Bj c:=by
 intro c
 induction c with
 |seq a b' iha ihb=>
  intro b l h;show l∈Bj a++Bj b';by_cases hl: ∃l',a= .label l'
  ·obtain⟨l',rfl⟩:=hl
   have h:(bif Nat.beq l' l then some b' else BF b' l)=some b:=h;cases he:Nat.beq l' l with
   |true=>rw [<-bqE he];simp [Bj]
   |false=>rw [he]at h;exact List.mem_append_right _ (ihb h)
  ·rw [CJ hl]at h;exact List.mem_append_right _ (ihb h)
 |_=>intro b l h;cases h
theorem P8: ∀ {c b r:Code} {l i:Nat},(Bj c).Nodup->BF c l=some b->BF b i=some r->BF c i=some r:=by
 intro c
 induction c with
 |seq a b' iha ihb=>
  intro b r l i hn h1 h2;have hn:(Bj a++Bj b').Nodup:=hn;rw [List.nodup_append]at hn;by_cases hl: ∃l',a= .label l'
  ·obtain⟨k,rfl⟩:=hl
   have h1:(bif Nat.beq k l then some b' else BF b' l)=some b:=h1;have hi:BF b' i=some r:=by
    cases he:Nat.beq k l with
    |true=>rw [he]at h1;cases h1;exact h2
    |false=>rw [he]at h1;exact ihb hn.2.1 h1 h2
   have hne:k≠i:=hn.2.2 k (by simp [Bj]) i (UO hi)
   show(bif Nat.beq k i then some b' else BF b' i)=_;rw [Bt hne];exact hi
  ·have e2:=CJ (b:=b') hl
   rw [e2]at h1⊢;exact ihb hn.2.1 h1 h2
 |_=>intro b r l i _ h;cases h
theorem UI{P:Program}{E:Bh}{C:Ctx}(hE:EOK P E.toEnv)(hm:P.follows .mixedOrders=true)(hkeep:C.m<=E.h.keep):JF P E C (UJ E):=by
 intro c R s K z Q a w hs h hQ;unfold UJ at h;cases hch:Js c&&M1 (Bj c)with
 |false=>rw [hch]at h;cases h
 |true=>
 rw [hch]at h;rw [bAE]at hch;obtain⟨hch,hnd⟩:=hch;have hnd:=M0 hnd;have h:DK E c s (XY K) _=some z:=h
 let D:Nat->Nat->Act->World->Prop:=fun n l a w=>∃ (l0:Nat) (c1:Code) (L Rh:List Nat) (s1:St) (tys:List Ty) (x:(Bc tys).T),Kx c=some l0/\BF c l0=some c1/\Hr (AD c1) L Rh s1=true/\Kp (Ak (AD c)) s s1/\C.m<=s1.r.length/\
  Cb (fun y:Nat×(Bc tys).T=>Ih E c (AD c1) L Rh s1 tys K y.1 y.2 (Bj c)) (l,x) (.ret z) n/\AU C E.h.n (A4 true (AD c1) L Rh s1 (ofX tys x)).den a w
 have claim: ∀n l a w,D n l a w->∃b,BF c l=some b/\b.wp P (fun e a' w'=>match e with
   | .goto l'=>∃n',n'<n/\D n' l' a' w'
   |e=>Q e a' w') a w:=by
  intro n
  induction n using Nat.strongRecOn with
  |_ n ih=>
  intro l a w hD;obtain⟨l0,c1,L,Rh,s1,tys,x,hf0,hr0,hok,hk1,hml,hT,hsr⟩:=hD
  have hround: ∃lo,Ih E c (AD c1) L Rh s1 tys K l x (Bj c)=some lo/\((∃y n',lo= .next y/\Cb (fun y:Nat×(Bc tys).T=>Ih E c (AD c1) L Rh s1 tys K y.1 y.2 (Bj c)) y (.ret z) n'/\n=n'+1)\/(lo= .ret z)):=by
   cases hT with
   |ret h'=>exact⟨_,h',.inr rfl⟩
   |step h' h2=>exact⟨_,h',.inl ⟨_,_,rfl,h2,rfl⟩⟩
  obtain⟨lo,hlo,hcase⟩:=hround;obtain⟨b,hb,hex⟩:=IX _ hlo;refine⟨b,hb,?_⟩
  have hdst: ∀i,Ak (AD c1) i=true->Ak (AD b) i=true:=fun i hi=>by
   rcases NT (c:=c) hf0 hr0 hb with⟨_,rfl⟩|h
   ·exact hi
   ·exact IY c1 b l h hi
  have hgo: ∀ (l':Nat) (s':St) (a':Act) (w':World),Kp (Ak (AD b)) (A4 true (AD c1) L Rh s1 (ofX tys x)) s'->AU C E.h.n s'.den a' w'->QD L Rh s1 E.h.keep tys l' s'=some lo->∃n',n'<n/\D n' l' a' w':=by
   intro l' s' a' w' hk hs' hx;unfold QD at hx;split at hx
   case h_2=>cases hx
   rename_i cs2 hcs2;split at hx
   case h_2=>cases hx
   rename_i x2 hx2;cases hx;rcases hcase with⟨y,n',he,hT',hn'⟩|he
   ·cases he
    obtain⟨f1,f2,f3⟩:=Ks (hk.weak hdst);refine⟨n',by omega,l0,c1,L,Rh,s1,tys,x2,hf0,hr0,hok,hk1,hml,hT',?_⟩
    rw [PM _ _ _ hx2];exact Jj hs' hcs2 hkeep hml f1 f2 f3
   ·cases he
  have hk0: ∀s',Kp (Ak (AD b)) (A4 true (AD c1) L Rh s1 (ofX tys x)) s'->Kp (Ak (AD c)) s s':=fun s' hk=>
   Kp.trans hk1 (Kp.trans (Og hok) hk (g:=Ak (AD c)) (fun i hi=>IY c c1 l0 hr0 hi) fun i hi=>IY c b l hb hi) (fun _ h=>h) fun _ h=>h
  refine Mb hE hm hkeep b _ _ _ lo _ a w hsr hex (fun e s' a' w' hk hs' hz=>?_) fun l' b' s' a' w' hk hs' hz _ h2=>?_
  ·have hret: ∀e',BT (K e' s')=some lo->Q e' a' w':=fun e' hz=>by
    obtain⟨z',h1,rfl⟩:=UN hz;rcases hcase with⟨_,_,he,_⟩|he
    ·cases he
    ·cases he
     exact hQ _ _ _ _ (hk0 s' hk) hs' h1
   cases e with
   |goto l'=>exact hgo l' s' a' w' hk hs' hz
   |normal=>exact hret _ hz
   |exit id=>exact hret _ hz
   |ret=>exact hret _ hz
   |panic ch=>cases hz
   |outgrown=>cases hz
  ·obtain⟨n',hn',hD'⟩:=hgo l' s' a' w' hk hs' hz
   obtain⟨b2,hb2,hw2⟩:=ih n' hn' l' a' w' hD';rw [P8 hnd hb h2]at hb2;cases hb2;refine _root_.Go.wp_mono hw2 fun e a w hq=>?_
   cases e with
   |goto l2=>obtain⟨n2,h1,h2⟩:=hq;exact⟨n2,by omega,h2⟩
   |normal=>exact hq
   |exit id=>exact hq
   |ret=>exact hq
   |panic ch=>exact hq
   |outgrown=>exact hq
 have hlab: ∀n l a w,D n l a w->∃r,findLabel c l=some r:=fun n l a w hD=>by
  obtain⟨b,hb,_⟩:=claim n l a w hD;obtain⟨r,hr,_⟩:=Iy (P:=P) c b l hch hb;exact⟨r,hr⟩
 have hmin: ∀ (l:Nat) (a:Act) (w:World),∃k,(∃n,D n l a w)->D k l a w/\∀n,D n l a w->k<=n:=by
  intro l a w;by_cases hJ: ∃n,D n l a w
  ·obtain⟨k,hk,hlt⟩:=Xd hJ
   exact⟨k,fun _=>⟨hk,fun n hn=>Nat.le_of_not_lt fun hl=>hlt n hl hn⟩⟩
  ·exact⟨0,fun h=>absurd h hJ⟩
 refine KT (fun l a w=>∃n,D n l a w) (fun l a w=>Classical.choose (hmin l a w)) ?_ ?_
 ·refine Mb hE hm hkeep c s _ _ z _ a w hs h (fun e s' a' w' hk hs' hz=>?_) fun l b s1 a' w' hk hs' hz h1 h2=>?_
  ·cases e with
   |goto l=>cases hz
   |normal=>exact hQ _ _ _ _ hk hs' hz
   |exit id=>exact hQ _ _ _ _ hk hs' hz
   |ret=>exact hQ _ _ _ _ hk hs' hz
   |panic ch=>exact hQ _ _ _ _ hk hs' hz
   |outgrown=>exact hQ _ _ _ _ hk hs' hz
  ·rw [h2]at hz
   generalize Qo s1 E.lp (Bq c)=p at hz;obtain⟨L,Rh⟩:=p;simp only at hz;cases hok:Hr (AD b) L Rh s1 with
   |false=>rw [hok]at hz;cases hz
   |true=>
   rw [hok]at hz;simp only [cond_true]at hz;split at hz
   case h_2=>cases hz
   rename_i cs hcs;split at hz
   case h_2=>cases hz
   rename_i x hx;have hml:C.m<=s1.r.length:=by
    obtain⟨hd0,hdd0,D0,ρ0,F0,hcr0⟩:=id hs';have:=hcr0.ml;simpa [St.den]using this
   cases hl:Au (fun y:Nat×(Bc (cs.map (·.t))).T=>Ih E c (AD b) L Rh s1 (cs.map (·.t)) K y.1 y.2 (Bj c)) (l,x)with
   |none=>rw [hl]at hz;cases hz
   |some o=>
   rw [hl]at hz;cases o with
   |next=>cases hz
   |brk=>cases hz
   |ret r=>
   cases hz;obtain⟨n,hn⟩:=Cc.1 hl;have hD:D n l a' w':=by
    refine⟨l,b,L,Rh,s1,_,x,h1,h2,hok,hk,hml,hn,?_⟩;rw [PM _ _ _ hx];exact Jj hs' hcs hkeep hml (fun _ _ _ _=>rfl) (fun _ _ _=>⟨rfl,rfl⟩) fun _ _ _ _=>rfl
   obtain⟨b2,hb2,hw2⟩:=claim n l a' w' hD;rw [h2]at hb2;cases hb2;refine _root_.Go.wp_mono hw2 fun e a w hq=>?_
   cases e with
   |goto l2=>obtain⟨n2,h1,h2⟩:=hq;exact⟨hlab _ _ _ _ h2,n2,h2⟩
   |normal=>exact hq
   |exit id=>exact hq
   |ret=>exact hq
   |panic ch=>exact hq
   |outgrown=>exact hq
 ·intro l r a w hf hJ
  obtain⟨hD,_⟩:=Classical.choose_spec (hmin l a w) hJ;obtain⟨b,hb,hw⟩:=claim _ l a w hD;obtain⟨r',hr',hrw⟩:=Iy c b l hch hb;rw [hf]at hr';cases hr';refine hrw _ _ _ (_root_.Go.wp_mono hw fun e a' w' hq=>?_)
  cases e with
  |goto l2=>
   obtain⟨n2,h1,h2⟩:=hq;refine⟨hlab _ _ _ _ h2,⟨n2,h2⟩,?_⟩;have:=(Classical.choose_spec (hmin l2 a' w') ⟨n2,h2⟩).2 n2 h2;show Classical.choose (hmin l2 a' w')<Classical.choose (hmin l a w);omega
  |normal=>exact hq
  |exit id=>exact hq
  |ret=>exact hq
  |panic ch=>exact hq
  |outgrown=>exact hq
theorem KW{P:Program}{E:Bh}{C:Ctx}(hE:EOK P E.toEnv)(hm:P.follows .mixedOrders=true)(hkeep:C.m<=E.h.keep)(c:Code){R:Type}(s:St)(K:Exit->St->Option R)(z:R)(Q:Exit->Act->World->Prop)(a:Act)(w:World)(hs:AU C E.h.n s.den a w)(h:WA E c s K=some z)
  (hQ: ∀e s' a' w',Kp (Ak (AD c)) s s'->AU C E.h.n s'.den a' w'->K e s'=some z->Q e a' w'):c.wp P Q a w:=
 Mc hE hm hkeep (UI hE hm hkeep) c s K z Q a w hs h hQ
end Go.Ve


namespace Go.Ve
def divP:AT->AT->Bool
 |(_,k)::p,(_,l)::q=>!Nat.beq k l||divP p q
 |_,_=>false
theorem Pu{x:V}: ∀ {p q:AT} (_:divP p q=true) (v:V),sub q (upd p v x)=sub q v/\AX p q=false
 |(i,k)::p,(j,l)::q,h0,v=>by
  have h:(!Nat.beq k l||divP p q)=true:=h0;clear h0;by_cases hkl:k=l
  ·subst hkl
   rw [Nat.beq_refl,Bool.not_true,Bool.false_or]at h;refine⟨?_,?_⟩
   ·cases v with
    |nd s o sz n f=>
     show sub q (if j=i/\k=k then upd p (f i k) x else f j k)=sub q (f j k)
     by_cases hji:j=i
     ·subst hji
      rw [if_pos ⟨rfl,rfl⟩];exact(Pu h (f j k)).1
     ·rw [if_neg (fun e=>hji e.1)]
    |_=>rfl
   ·show(i==j&&k==k&&AX p q)=false
    rw [(Pu (x:=x) h v).2,Bool.and_false]
  ·refine⟨?_,?_⟩
   ·cases v with
    |nd s o sz n f=>
     show sub q (if j=i/\l=k then upd p (f i k) x else f j l)=sub q (f j l)
     rw [if_neg (fun e=>hkl e.2.symm)]
    |_=>rfl
   ·show(i==j&&k==l&&AX p q)=false
    have:(k==l)=false:=by simpa using hkl
    rw [this,Bool.and_false,Bool.false_and]
 | [],_,h,_=>by cases h
 |_::_,[],h,_=>by cases h
def CK:List Cl->List (Nat×AT)
 | []=>[]
 | .rf id p::l=>(id,p)::CK l
 |_::l=>CK l
def Pt(a b:Nat×AT):Bool:=!Nat.beq a.1 b.1||divP a.2 b.2
def Ns:List (Nat×AT)->Bool
 | []=>true
 |a::l=>l.all (Pt a)&&Ns l
def Yu(r:List Aa):Cl->Option Cl
 | .c t d x=>some (.c t d x)
 | .nil=>some .nil
 | .nilp=>some .nilp
 | .rf id p=>match Ab r id p with
  | .arr _ t d xs=>some (.c (.sl t) (d+1) xs)
  |_=>none
 |_=>none
def Mf(r:List Aa):List Cl->Option (List Cl)
 | []=>some []
 |y::l=>match Yu r y with
  |some z=>match Mf r l with
   |some m=>some (z::m)
   |none=>none
  |none=>none
theorem Pd{id:Nat}{q:AT}: ∀ {l:List Cl},Cl.rf id q∈l->(id,q)∈CK l
 | [],h=>by cases h
 |z::l,h=>by
  rcases List.mem_cons.1 h with h|h
  ·subst h;exact List.mem_cons_self ..
  ·have:=Pd h
   cases z<;>first|exact this|exact mCM _ this
theorem IJ{r:List Aa}{y:Cl}: ∀ {l l1:List Cl},Mf r l=some l1->y∈l->∃z,Yu r y=some z
 | [],_,_,h=>by cases h
 |z::l,l1,hl,h=>by
  unfold Mf at hl;split at hl
  case h_2=>cases hl
  rename_i z1 hz1;split at hl
  case h_2=>cases hl
  rename_i l2 hl2;rcases List.mem_cons.1 h with h|h
  ·subst h;exact⟨z1,hz1⟩
  ·exact IJ hl2 h
theorem Ys{m id:Nat}{p:AT}{n:Nat}{vs σ:List V}:tkL (m+1) (V.rs id p 0 n::vs) σ=(match sub p (σ.getD id .dead)with
   | .nd true true sz n' f=>if 0=0/\n=n' then .nd true true sz n' f::tkL m (vs.map fun v=>Bb σ.length [] (rrV id p σ.length v)) (σ.set id (upd p (σ.getD id .dead) .dead)++ [.dead])else .dead::tkL m vs σ
   |_=>.dead::tkL m vs σ):=rfl
theorem tkL_v(r:List Aa): ∀ (l l':List Cl) (m:Nat) (σ:List V),l.length<=m->l.all Cl.plain=true->Mf r l=some l'->Ns (CK l)=true->
  (∀id p,(id,p)∈CK l->sub p (σ.getD id .dead)=(Ab r id p).v/\id<σ.length)->tkL m (l.map (Cl.v r)) σ=l'.map Cl.v0:=by
 intro l
 induction l with
 |nil=>intro l' m σ _ _ h _ _;cases h;cases m<;>rfl
 |cons y l ih=>
  intro l' m σ hm hp h hd hσ;cases m with
  |zero=>simp at hm
  |succ m=>
   simp only [List.length_cons]at hm;rw [List.all_cons,bAE]at hp;unfold Mf at h;split at h
   case h_2=>cases h
   rename_i z hz;split at h
   case h_2=>cases h
   rename_i l1 hl1;cases h
   have plainly: ∀v:V,y.v r=v->v=z.v0->CK (y::l)=CK l->(∀vs,tkL (m+1) (v::vs) σ=v::tkL m vs σ)->tkL (m+1) ((y::l).map (Cl.v r)) σ=(z::l1).map Cl.v0:=by
    intro v hv hvz hrf htk;rw [List.map_cons,List.map_cons,hv,htk,<-hvz]
    congr 1
    exact ih l1 m σ (by omega) hp.2 hl1 (by rw [hrf]at hd;exact hd) fun id p hm=>hσ id p (by rw [hrf];exact hm)
   cases y with
   |c t d x=>
    cases hz;cases t<;>first|exact plainly _ rfl rfl rfl (fun _=>rfl)|cases hp.1
   |nil=>cases hz;exact plainly _ rfl rfl rfl fun _=>rfl
   |nilp=>cases hz;exact plainly _ rfl rfl rfl fun _=>rfl
   |nilf=>cases hz
   |rf id p=>
    unfold Yu at hz;simp only at hz;split at hz
    case h_2=>cases hz
    rename_i ro t d xs hn;cases hz;have hd':((CK l).all (Pt (id,p))&&Ns (CK l))=true:=hd;rw [bAE]at hd';obtain⟨hs,hid⟩:=hσ id p (List.mem_cons_self ..);rw [hn]at hs;have hs:sub p (σ.getD id .dead)= .nd true true t.w xs.length fun i k=>(tyV t d (xs.getD i t.dflt)).getD k .dead:=hs
    rw [List.map_cons];show tkL (m+1) (V.rs id p 0 (Ab r id p).len::l.map (Cl.v r)) σ=_;rw [hn];show tkL (m+1) (V.rs id p 0 xs.length::l.map (Cl.v r)) σ=_
    have e:tkL (m+1) (V.rs id p 0 xs.length::l.map (Cl.v r)) σ=(V.nd true true t.w xs.length fun i k=>(tyV t d (xs.getD i t.dflt)).getD k .dead)::
      tkL m ((l.map (Cl.v r)).map fun v=>Bb σ.length [] (rrV id p σ.length v)) (σ.set id (upd p (σ.getD id .dead) .dead)++ [.dead]):=by
     rw [Ys,hs];exact if_pos ⟨rfl,rfl⟩
    rw [e,List.map_cons]
    congr 1
    -- the rest is as it was
    have hsame:(l.map (Cl.v r)).map (fun v=>Bb σ.length [] (rrV id p σ.length v))=l.map (Cl.v r):=by
     rw [List.map_map];refine List.map_congr_left fun y hy=>?_
     show Bb σ.length [] (rrV id p σ.length (y.v r))=y.v r;cases y with
     |c t d x=>cases t<;>first|rfl|exact(congrArg (Bb σ.length []) ((C0 id p σ.length).osl (d:=d))).trans ((BJ σ.length []).osl (d:=d))|exact(congrArg (Bb σ.length []) ((C0 id p σ.length).clo (d:=d))).trans ((BJ σ.length []).clo (d:=d))
     |dead=>rfl
     |nil=>rfl
     |nilp=>rfl
     |nilf=>rfl
     |rf id' q=>
      have hmem:(id',q)∈CK l:=Pd hy;have hdv:=aET.1 hd'.1 _ hmem;have hlt:=(hσ id' q (mCM _ hmem)).2
      have hn1: ¬ (id'=id/\AX p q=true):=by
       rintro ⟨h1,h2⟩
       unfold Pt at hdv;simp only [h1,Nat.beq_refl,Bool.not_true,Bool.false_or]at hdv;rw [(Pu (x:=.dead) hdv .dead).2]at h2;cases h2
      show Bb σ.length [] (rrV id p σ.length (.rs id' q 0 (Ab r id' q).len))=_;simp only [rrV,if_neg hn1,Bb];rw [if_neg (by rintro ⟨h,_⟩;omega)]
      rfl
     |rs id' q a b=>obtain⟨z,hz⟩:=IJ hl1 hy;cases hz
     |rp id' q a b=>obtain⟨z,hz⟩:=IJ hl1 hy;cases hz
    rw [hsame];refine ih l1 m _ (by omega) hp.2 hl1 hd'.2 fun id' q hmem=>?_
    obtain⟨h1,h2⟩:=hσ id' q (mCM _ hmem);have hdv:=aET.1 hd'.1 _ hmem;refine⟨?_,by simp;omega⟩
    have hlt:id'<(σ.set id (upd p (σ.getD id .dead) .dead)).length:=by simpa using h2
    rw [AF hlt];by_cases hii:id=id'
    ·subst hii
     rw [Ai hid,<-h1];unfold Pt at hdv;simp only [Nat.beq_refl,Bool.not_true,Bool.false_or]at hdv;exact(Pu hdv _).1
    ·rw [Ah hii,h1]
   |dead=>cases hz
   |rs=>cases hz
   |rp=>cases hz
def retV1(Θ:Tab)(s:St):ResultVar->Option Sl
 | .tmp t=>some (s.t t)
 | .cell a t=>match Ur s (Θ.look t) (s.ev (.tmp a))with
  |some (.ok y)=>some y
  |_=>none
def WO(Θ:Tab)(s:St):List ResultVar->Option (List Sl)
 | []=>some []
 |v::l=>match retV1 Θ s v with
  |some y=>match WO Θ s l with
   |some m=>some (y::m)
   |none=>none
  |none=>none
def cellsOf:List Sl->Option (List (Bool×List Cl))
 | []=>some []
 |y::l=>match y with
  | .one c=>match(Sl.one c).cells,cellsOf l with
   |some m,some n=>some ((false,m)::n)
   |_,_=>none
  | .agg c=>match(Sl.agg c).cells,cellsOf l with
   |some m,some n=>some ((true,m)::n)
   |_,_=>none
  |_=>none
def N2(t:Ty)(d:Nat)(l:List Cl):Option t.T:=HX t d (l.map (fit d))
theorem I5{t:Ty}{d:Nat}{l:List Cl}{x:t.T}(h:N2 t d l=some x)(r:List Aa):Cw (l.map (Cl.v r)) (tyV t d x)/\l.map (Cl.v r)=l.map Cl.v0:=by
 have:=CM h r
 have e1:(l.map (fit d)).map (Cl.v r)=l.map (Cl.v r):=by
  rw [List.map_map];exact List.map_congr_left fun c _=>(Zt d r c).1
 have e2:(l.map (fit d)).map Cl.v0=l.map Cl.v0:=by
  rw [List.map_map];exact List.map_congr_left fun c _=>(Zt d r c).2
 rw [e1,e2]at this;exact this
def Kk(b:Bool)(p:Bool×Nat×Ty)(l:List Cl):Option p.2.2.T:=bif b|| !isP p then N2 p.2.2 p.2.1 l else match l with
 | [.nilp]=>some p.2.2.dflt
 |_=>none
def O6(b:Bool):(rs:List (Bool×Nat×Ty))->List (Bool×List Cl)->List Cl->Option (RT rs).T
 | [],[],[]=>some ()
 | [p],[q],l=>bif p.1==q.1&&(p.1||p.2.2.one)&&Nat.beq l.length q.2.length then Kk b p l else none
 |p::p'::rs,q::q'::qs,l=>bif p.1==q.1&&(p.1||p.2.2.one)&&Nat.ble q.2.length l.length then(match Kk b p (l.take q.2.length)with
  |some x=>match O6 b (p'::rs) (q'::qs) (l.drop q.2.length)with
   |some z=>some (x,z)
   |none=>none
  |none=>none)else none
 |_,_,_=>none
def ZJ(b:Bool)(Θ:Tab)(rv:List ResultVar)(rs:List (Bool×Nat×Ty))(s:St):Option (RT rs).T:=match WO Θ s rv with
 |some ys=>match cellsOf ys with
  |some ls=>match Mf s.r (ls.flatMap (·.2))with
   |some m=>bif Ns (CK (ls.flatMap (·.2)))then O6 b rs ls m else none
   |none=>none
  |none=>none
 |none=>none
def retK(Θ:Tab)(rv:List ResultVar)(rs:List (Bool×Nat×Ty)):Exit->St->Option (RT rs).T
 | .normal,s=>ZJ true Θ rv rs s
 | .ret,s=>ZJ true Θ rv rs s
 |_,_=>none
def pS(b:Bool)(t:Ty)(x:t.T):Sl:=bif b then .agg (Ar t 0 x)else .one (.c t 0 x)
def Wq:(l:List (Bool×Ty))->(PT l).T->List Sl
 | [],_=>[]
 | [p],x=>[pS p.1 p.2 x]
 |p::q::l,x=>pS p.1 p.2 x.1::Wq (q::l) x.2
def NQ(l:List (Bool×Ty))(x:(PT l).T):St:=⟨fun i=>(Wq l x).getD i (.one .dead),[]⟩
noncomputable def tfun(E:Bh)(body:Code)(rv:List ResultVar)(S:Sig)(x:(PT S.ps).T):Option (RT S.rs).T:=WA E body (NQ S.ps x) (retK E.Θ rv S.rs)
theorem Nv{s:St}: ∀ (ys:List Sl) (ls:List (Bool×List Cl)),cellsOf ys=some ls->(ys.map (Sl.v s.r)).all Br=true/\(ys.map (Sl.v s.r)).flatMap Go.Ve.cellsV=(ls.flatMap (·.2)).map (Cl.v s.r)/\(ls.flatMap (·.2)).all Cl.plain=true/\ls.length=ys.length
 | [],ls,h=>by cases h;exact⟨rfl,rfl,rfl,rfl⟩
 |y::ys,ls,h=>by
  have go: ∀ (b:Bool) (m:List Cl) (n:List (Bool×List Cl)),y.cells=some m->cellsOf ys=some n->ls=(b,m)::n->((y::ys).map (Sl.v s.r)).all Br=true/\((y::ys).map (Sl.v s.r)).flatMap Go.Ve.cellsV=(ls.flatMap (·.2)).map (Cl.v s.r)/\(ls.flatMap (·.2)).all Cl.plain=true/\ls.length=(y::ys).length:=by
   intro b m n hm hn e;subst e;obtain⟨h1,h2,h3⟩:=Cv (r:=s.r) hm;obtain⟨g1,g2,g3,g4⟩:=Nv ys n hn;refine⟨by rw [List.map_cons,List.all_cons,h1,g1];rfl,?_,?_,by simp [g4]⟩
   ·rw [List.map_cons,List.flatMap_cons,List.flatMap_cons,List.map_append,h2,g2]
   ·rw [List.flatMap_cons,List.all_append,h3,g3];rfl
  unfold cellsOf at h;split at h
  ·split at h
   ·rename_i m n hm hn
    cases h;exact go _ _ _ hm hn rfl
   ·cases h
  ·split at h
   ·rename_i m n hm hn
    cases h;exact go _ _ _ hm hn rfl
   ·cases h
  ·cases h
theorem DB{s:St}: ∀ (ys:List Sl) (ls:List (Bool×List Cl)),cellsOf ys=some ls->∀k,k<ls.length->((ls.getD k (false,[])).1=true/\(∃l,(ys.getD k (.one .dead)).v s.r=Ad l/\l.length=(ls.getD k (false,[])).2.length))\/((ls.getD k (false,[])).1=false/\(∀t n f,(ys.getD k (.one .dead)).v s.r≠.many t n f)/\(ls.getD k (false,[])).2.length=1)
 | [],ls,h,k,hk=>by cases h;simp at hk
 |y::ys,ls,h,k,hk=>by
  unfold cellsOf at h;split at h
  ·rename_i c
   split at h
   ·rename_i m n hm hn
    cases h;cases k with
    |zero=>
     right;refine⟨rfl,?_,?_⟩
     ·have hm:(bif c.plain then some [c]else none)=some m:=hm
      cases hb:c.plain with
      |false=>rw [hb]at hm;cases hm
      |true=>
       show ∀t n f,c.v s.r≠.many t n f;cases c with
       |c t d x=>cases t<;>first|(cases hb;done)|(intro _ _ _ h;cases h)
       |_=>intro _ _ _ h;cases h
     ·have hm:(bif c.plain then some [c]else none)=some m:=hm
      cases hb:c.plain with
      |false=>rw [hb]at hm;cases hm
      |true=>rw [hb]at hm;cases hm;rfl
    |succ k=>exact DB ys n hn k (by simpa using hk)
   ·cases h
  ·rename_i c
   split at h
   ·rename_i m n hm hn
    cases h;cases k with
    |zero=>
     left;refine⟨rfl,c.map (Cl.v s.r),rfl,?_⟩;have hm:(bif c.all Cl.plain then some c else none)=some m:=hm;cases hb:c.all Cl.plain with
     |false=>rw [hb]at hm;cases hm
     |true=>rw [hb]at hm;cases hm;simp
    |succ k=>exact DB ys n hn k (by simpa using hk)
   ·cases h
  ·cases h
theorem WZ(b:Bool): ∀ (rs:List (Bool×Nat×Ty)) (ls:List (Bool×List Cl)) (l:List Cl) (z:(RT rs).T) (vl:List V),O6 b rs ls l=some z->vl.length=ls.length->
  (∀k,k<ls.length->((ls.getD k (false,[])).1=true/\(∃m,vl.getD k .dead=Ad m/\m.length=(ls.getD k (false,[])).2.length))\/((ls.getD k (false,[])).1=false/\(∀t n f,vl.getD k .dead≠.many t n f)/\(ls.getD k (false,[])).2.length=1))->
  Cw (A8 vl (l.map Cl.v0)) (P9 b rs z):=by
 -- one result
 have one: ∀ (p:Bool×Nat×Ty) (q:Bool×List Cl) (l:List Cl) (x:p.2.2.T) (v:V) (vs:List V) (rest:List V),p.1=q.1->(p.1=true\/p.2.2.one=true)->l.length=q.2.length->Kk b p l=some x->
   ((q.1=true/\(∃m,v=Ad m/\m.length=q.2.length))\/(q.1=false/\(∀t n f,v≠.many t n f)/\q.2.length=1))->∃v',A8 (v::vs) (l.map Cl.v0++rest)=v'::A8 vs rest/\Sub v' (Wk b p x):=by
  intro p q l x v vs rest h1 h2 hl hx hk;unfold Kk at hx;unfold Wk;cases hbp:b|| !isP p with
  |false=>
   rw [hbp]at hx;simp only [cond_false]at hx;split at hx
   case h_2=>cases hx
   have hp1:p.1=false:=by
    rw [Bool.or_eq_false_iff,Bool.not_eq_false']at hbp;have:=hbp.2;unfold isP at this;rw [bAE,Bool.not_eq_true']at this;exact this.1
   rcases hk with⟨hq,_⟩|⟨_,hv,_⟩
   ·rw [<-h1,hp1]at hq;cases hq
   ·refine⟨.c (.pointer none),?_,Sub.refl _⟩
    show A8 (v::vs) (.c (.pointer none)::rest)=_;cases v with
    |many t n f=>exact absurd rfl (hv _ _ _)
    |_=>rfl
  |true=>
  rw [hbp]at hx;simp only [cond_true]at hx⊢;obtain⟨g1,g2⟩:=I5 hx [];rw [g2]at g1;rcases hk with⟨hq,m,rfl,hm⟩|⟨hq,hv,hq1⟩
  ·refine⟨Ad (l.map Cl.v0),?_,?_⟩
   ·show Ad ((l.map Cl.v0++rest).take m.length)::A8 vs ((l.map Cl.v0++rest).drop m.length)=_
    have e:(l.map Cl.v0).length=m.length:=by rw [List.length_map,hl,hm]
    rw [<-e,List.take_left,List.drop_left]
   ·rw [h1,hq];exact g1.mk
  ·have hp:p.1=false:=by rw [h1,hq]
   have ho:p.2.2.one=true:=by rcases h2 with h|h;rw [hp]at h;cases h;exact h
   rw [Bl ho]at g1
   match l,hl with
   | [y],_=>
    refine⟨y.v0,?_,?_⟩
    ·show A8 (v::vs) (y.v0::rest)=_
     cases v with
     |many t n f=>exact absurd rfl (hv _ _ _)
     |_=>rfl
    ·rw [hp];exact g1.1
   | [],hl=>rw [hq1]at hl;cases hl
   |_::_::_,hl=>rw [hq1]at hl;simp at hl
 intro rs
 induction rs with
 |nil=>
  intro ls l z vl h hl hk;cases ls with
  |nil=>cases l with
   |nil=>cases vl with
    |nil=>trivial
    |cons=>simp at hl
   |cons=>cases h
  |cons=>cases h
 |cons p rs ih=>
  intro ls l z vl h hl hk;cases rs with
  |nil=>
   cases ls with
   |nil=>cases h
   |cons q ls=>cases ls with
    |cons=>cases h
    |nil=>
     have h:(bif p.1==q.1&&(p.1||p.2.2.one)&&Nat.beq l.length q.2.length then Kk b p l else none)=some z:=h;cases hb:(p.1==q.1&&(p.1||p.2.2.one)&&Nat.beq l.length q.2.length)with
     |false=>rw [hb]at h;cases h
     |true=>
      rw [hb]at h;simp only [bAE,beq_iff_eq,Bool.or_eq_true]at hb;cases vl with
      |nil=>simp at hl
      |cons v vl=>cases vl with
       |cons=>simp at hl
       |nil=>
        obtain⟨v',e,hs⟩:=one p q l z v [] [] hb.1.1 hb.1.2 (bqE hb.2) h (hk 0 (by simp))
        rw [List.append_nil]at e;rw [e];exact⟨hs,trivial⟩
  |cons p' rs=>
   cases ls with
   |nil=>cases h
   |cons q ls=>cases ls with
    |nil=>cases h
    |cons q' ls=>
     have h:(bif p.1==q.1&&(p.1||p.2.2.one)&&Nat.ble q.2.length l.length then(match Kk b p (l.take q.2.length)with
      |some x=>match O6 b (p'::rs) (q'::ls) (l.drop q.2.length)with
       |some z=>some (x,z)
       |none=>none
      |none=>none)else none:Option (RT (p::p'::rs)).T)=some z:=h
     cases hb:(p.1==q.1&&(p.1||p.2.2.one)&&Nat.ble q.2.length l.length)with
     |false=>rw [hb]at h;cases h
     |true=>
      rw [hb]at h;simp only [bAE,beq_iff_eq,Bool.or_eq_true]at hb;simp only [cond_true]at h;split at h
      case h_2=>cases h
      rename_i x hx;split at h
      case h_2=>cases h
      rename_i z2 hz2;cases h;cases vl with
      |nil=>simp at hl
      |cons v vl=>
       have hlen:(l.take q.2.length).length=q.2.length:=by
        have:=blE hb.2;rw [List.length_take];omega
       obtain⟨v',e,hs⟩:=one p q (l.take q.2.length) x v vl ((l.drop q.2.length).map Cl.v0) hb.1.1 hb.1.2 hlen hx (hk 0 (by simp))
       rw [<-List.map_append,List.take_append_drop]at e;rw [e];refine⟨hs,ih (q'::ls) (l.drop q.2.length) z2 vl hz2 (by simpa using hl) fun k hk'=>?_⟩
       have:=hk (k+1) (by simpa using hk')
       simpa using this
theorem UM{P:Program}{Θ:Tab}(hΘ:Θ.OK P){s:St}{K:List V->Prop}: ∀ (rv:List ResultVar) (ys:List Sl) (acc:List V),WO Θ s rv=some ys->K (acc++ys.map (Sl.v s.r))->Qa P s.den rv acc K
 | [],ys,acc,h,hK=>by cases h;show K acc;simpa using hK
 |v::rv,ys,acc,h,hK=>by
  unfold WO at h;split at h
  case h_2=>cases h
  rename_i y hy;split at h
  case h_2=>cases h
  rename_i m hm;cases h;have hrest:Qa P s.den rv (acc++ [y.v s.r]) K:=UM hΘ rv m _ hm (by simpa using hK)
  cases v with
  |tmp t=>
   cases hy;exact hrest
  |cell a t=>
   unfold retV1 at hy;simp only at hy;split at hy
   ·rename_i y' hl
    cases hy;show Hi (tyI P t) s.den.σ (s.den.t a) fun v=>Qa P s.den rv (acc++ [v]) K
    exact Kc (ON hΘ hl trivial) fun r0 hr=>by rw [hr];exact hrest
   ·cases hy
theorem OT{P:Program}{Θ:Tab}(hΘ:Θ.OK P){s:St}{rv:List ResultVar}{rs:List (Bool×Nat×Ty)}{b:Bool}{z:(RT rs).T}(h:ZJ b Θ rv rs s=some z):Qa P s.den rv [] (Wd s.den.σ (IZ b rs z)):=by
 unfold ZJ at h;split at h
 case h_2=>cases h
 rename_i ys hys;split at h
 case h_2=>cases h
 rename_i ls hls;split at h
 case h_2=>cases h
 rename_i m hm;cases hd:Ns (CK (ls.flatMap (·.2)))with
 |false=>rw [hd]at h;cases h
 |true=>
  rw [hd]at h;simp only [cond_true]at h;refine UM hΘ rv ys [] hys ?_;rw [List.nil_append];obtain⟨h1,h2,h3,h4⟩:=Nv (s:=s) ys ls hls;refine⟨h1,?_⟩;rw [h2];have htk:=tkL_v s.r (ls.flatMap (·.2)) m ((ls.flatMap (·.2)).map (Cl.v s.r)).length s.den.σ (by simp) h3 hm hd fun id p hmem=>?_
  ·rw [htk]
   have hsub:=WZ b rs ls m z (ys.map (Sl.v s.r)) h (by rw [List.length_map,h4]) fun k hk=>?_
   ·-- Kj
    have hp: ∀ {a b:List V},Cw a b->Sub (Ln a) (Ln b):=by
     intro a b hab
     match a,b,hab with
     | [],[],_=>exact Sub.refl _
     | [x],[y],hab=>exact hab.1
     |x::x'::a,y::y'::b,hab=>
      show Sub (CV _) (CV _);unfold CV;rw [hab.len];exact⟨_,rfl,fun k _=>hab.getD k⟩
     | [],_::_,hab=>exact hab.elim
     |_::_,[],hab=>exact hab.elim
     | [_],_::_::_,hab=>exact hab.2.elim
     |_::_::_,[_],hab=>exact hab.2.elim
    exact hp hsub
   ·have:=DB (s:=s) ys ls hls k hk
    have e:(ys.map (Sl.v s.r)).getD k .dead=(ys.getD k (.one .dead)).v s.r:=Aw (f:=Sl.v s.r) (a:=.one .dead) rfl ys k;rw [e];exact this
  ·have key: ∀ (l l':List Cl),Mf s.r l=some l'->(id,p)∈CK l->Ab s.r id p≠.dead:=by
    intro l
    induction l with
    |nil=>intro l' _ h;cases h
    |cons y l ih=>
     intro l' hl hm;unfold Mf at hl;split at hl
     case h_2=>cases hl
     rename_i z1 hz1;split at hl
     case h_2=>cases hl
     rename_i l2 hl2;cases y with
     |rf id' q=>
      rcases List.mem_cons.1 hm with h|h
      ·cases h
       intro hx
       have hz1:(match Ab s.r id p with
        | .arr _ t d xs=>some (Cl.c (.sl t) (d+1) xs)
        |_=>none)=some z1:=hz1
       rw [hx]at hz1;cases hz1
      ·exact ih l2 hl2 h
     |_=>exact ih l2 hl2 hm
   have hne:=key _ _ hm hmem;refine⟨AQ hne,?_⟩;show id<(s.r.map Aa.v).length;rw [List.length_map];rcases Nat.lt_or_ge id s.r.length with h|h
   ·exact h
   ·exfalso
    apply hne;unfold Ab;rw [gDE,List.getElem?_eq_none h];exact Ct p
theorem pS_v(b:Bool)(t:Ty)(x:t.T):(pS b t x).v []=vOf b t 0 x:=by
 unfold pS vOf;cases b with
 |true=>show Ad ((Ar t 0 x).map (Cl.v []))=_;rw [Cl.v_c];rfl
 |false=>rfl
theorem V3: ∀ (l:List (Bool×Ty)) (x:(PT l).T),(Wq l x).map (Sl.v [])=Ce l x
 | [],x=>rfl
 | [p],x=>congrArg (fun v=>[v]) (pS_v p.1 p.2 x)
 |p::q::l,x=>by
  show(pS p.1 p.2 x.1).v []::(Wq (q::l) x.2).map (Sl.v [])=vOf p.1 p.2 0 x.1::Ce (q::l) x.2;rw [V3 (q::l) x.2,pS_v]
theorem DC: ∀ (l:List (Bool×Ty)) (x:(PT l).T),(Ce l x).length=l.length
 | [],_=>rfl
 | [_],_=>rfl
 |_::q::l,x=>by show(Ce (q::l) x.2).length+1=_;rw [DC];rfl
theorem XF{P:Program}{E:Bh}{f:FuncId}{fn:Func}{body:Code}{S:Sig}(hE:EOK P E.toEnv)(hm:P.follows .mixedOrders=true)(hf:P.funcs[f]? =some fn)(hb:fn.body=some body)(hn:max S.ps.length fn.ntmps=E.h.n):
  FT P f S (tfun E body fn.results.toList S):=by
 intro x y hxy;refine FC_of (h:=E.h) hf hb (by rw [DC];exact hn) fun _ C a w Q hCm hs hQ=>?_
 have e:(NQ S.ps x).den=⟨fun i=>(Ce S.ps x).getD i .dead,[]⟩:=by
  show Ms.mk (fun i=>((Wq S.ps x).getD i (.one .dead)).v []) []=_
  congr 1
  funext i
  rw [<-V3 S.ps x,Aw (f:=Sl.v []) (a:=.one .dead) rfl]
 rw [<-e]at hs;rw [<-DR]at hQ;refine KW hE hm (by rw [hCm];exact Nat.zero_le _) body (NQ S.ps x) _ y Q a w hs hxy fun e s' a' w' _ hs' hz=>?_
 cases e with
 |normal=>exact hQ .normal s'.den a' w' (OT hE.Θ hz) hs'
 |ret=>exact hQ .ret s'.den a' w' (OT hE.Θ hz) hs'
 |exit id=>cases hz
 |goto l=>cases hz
 |panic ch=>cases hz
 |outgrown=>cases hz
end Go.Ve


namespace Go.Ve
noncomputable def tfn(E:Bh)(fn:Func)(S:Sig)(x:(PT S.ps).T):Option (RT S.rs).T:=match fn.body with
 |some b=>tfun E b fn.results.toList S x
 |none=>none
theorem AV{P:Program}{E:Bh}{f:FuncId}{fn:Func}{S:Sig}(hΘ:Tab.OK P E.Θ)(hΓ:JT P E.Γ)(hW: ∀e∈E.W,e.OK P)(hN: ∀e∈E.N,e.OK P)(hm:P.follows .mixedOrders=true)(hf:P.funcs[f]? =some fn)(hn:max S.ps.length fn.ntmps=E.h.n){g:(PT S.ps).T->Option (RT S.rs).T}(hg:tfn E fn S=g)(hU: ∀e∈E.U,e.OK P:=by exact H7):FT P f S g:=by
 subst hg;intro x y hxy;unfold tfn at hxy;cases hb:fn.body with
 |none=>rw [hb]at hxy;cases hxy
 |some b=>
  rw [hb]at hxy;exact XF ⟨hΘ,hΓ,hW,hN,hU⟩ hm hf hb hn x y hxy
theorem Aq{P:Program}: ∀e∈([]:List EnN),e.OK P:=fun _ h=>by cases h
theorem Ap{P:Program}:JT P []:=fun _ h=>by cases h
theorem Ae{P:Program}{e:En}{l:List En}(h1:Ac P e.f=true)(h2:FT P e.f e.S e.g)(hl:JT P l):JT P (e::l):=by
 intro x hx;rcases List.mem_cons.1 hx with rfl|hx
 ·exact⟨h1,h2⟩
 ·exact hl x hx
end Go.Ve

