/- The typed machine: lists of quiet operations, guards; the head of a region that draws its order. -/
import Derived.Test.YtbbhfpbalccohaaGreatTg
import Derived.Test.YtbbhfpbalccohaaGreatTud
namespace Go.Ve
structure Env where
 Θ:Tab
 Γ:List En
 W:List EnW
 N:List EnN
 h:D5
def AaO:Op->Option (FuncId×Array Operand)
 | .call c=>match c.callee with
  | .value (.func f)=>some (f,c.args)
  |_=>none
 |_=>none
def Cl.live:Cl->Bool
 | .dead=>false
 | .c (.osl _) _ _=>false
 | .c t _ _=>t.one
 |_=>true
def Aah:Option Sl->Bool
 |some (.one y)=>y.live
 |some _=>true
 |none=>false
theorem live_v{s:St}{x:Operand}(h:Aah (s.ev x)=true):s.den.ev x≠.dead:=by
 unfold Aah at h;split at h
 ·rename_i y hy
  rw [A3 hy];cases y with
  |c t d x=>
   cases t<;>first|(intro hc;cases hc;done)|cases h
  |dead=>cases h
  |_=>intro hc;cases hc
 ·rename_i y hne hy
  rw [A3 hy];cases y with
  |one c=>exact absurd rfl (hne c)
  |_=>intro hc;cases hc
 ·cases h
def St.liveX(s:St):Operand->Bool
 | .func _=>true
 |x=>Aah (s.ev x)
theorem Aag{s:St}{x:Operand}(h:s.liveX x=true):s.den.ev x≠.dead:=by
 cases x with
 |func f=>
  intro e;have e:fnV f= .dead:=e;unfold fnV at e;cases hb:Nat.blt f 1000000<;>(rw [hb]at e;cases e)
 |_=>exact live_v h
def Zl{R:Type}(E:Env)(s:St)(ty:TypeId)(op:Op)(K:Sl->Option R):Option R:=bif op.operands.toList.all s.liveX then(match AaO op with
 |some (f,xs)=>match IR E.Γ s f (xs.toList.map s.ev)with
  |some a=>I7 a.o fun z=>K (a.y z)
  |none=>match UU E.N s f (xs.toList.map s.ev)with
   |some a=>I7 a.o fun z=>WD z.1 (K (a.y true z.2)) (K (a.y false z.2))
   |none=>none
 |none=>match cloF s op with
  |some (g,ys)=>match IR E.Γ s g (ys.map some)with
   |some a=>I7 a.o fun z=>K (a.y z)
   |none=>none
  |none=>match cloI E.Θ s op with
  |some (g,ys)=>match IR E.Γ s g (ys.map some)with
   |some a=>I7 a.o fun z=>K (a.y z)
   |none=>none
  |none=>match tq E.Θ s ty op with
   |some (.ok y)=>K y
   |some (.cnd p dec y)=>oif p dec (K y)
   |none=>none)else none
structure EOK(P:Program)(E:Env):Prop where
 Θ:E.Θ.OK P
 Γ:It P E.Γ
 W: ∀e∈E.W,e.OK P
 N: ∀e∈E.N,e.OK P
theorem HI{R:Type}{P:Program}{E:Env}(hE:EOK P E){s:St}{ty:TypeId}{op:Op}{K:Sl->Option R}{z:R}(h:Zl E s ty op K=some z):(∀x∈op.operands,s.den.ev x≠.dead)/\∃y,QS P s op y/\K y=some z:=by
 unfold Zl at h;cases hl:op.operands.toList.all s.liveX with
 |false=>rw [hl]at h;cases h
 |true=>
 rw [hl]at h;simp only [cond_true]at h;refine⟨fun x hx=>Aag (aET.1 hl x (by simpa using hx)),?_⟩
 split at h
 ·rename_i f xs hc
  split at h
  case h_2=>
   split at h
   case h_2=>cases h
   rename_i a ha;cases hu:a.o with
   |none=>rw [hu]at h;cases h
   |some u=>
    rw [hu]at h;obtain⟨b,u⟩:=u;refine⟨a.y b u,?_,by cases b<;>exact h⟩
    unfold AaO at hc;split at hc
    case h_2=>cases hc
    rename_i c;obtain⟨callee,args,ats⟩:=c;split at hc
    case h_2=>cases hc
    rename_i f' hf;have hf:callee= .value (.func f'):=hf;subst hf;cases hc;exact ME hE.N ha hu
  rename_i a ha;cases hu:a.o with
  |none=>rw [hu]at h;cases h
  |some u=>
   rw [hu]at h;refine⟨a.y u,?_,h⟩;unfold AaO at hc;split at hc
   case h_2=>cases hc
   rename_i c;obtain⟨callee,args,ats⟩:=c;split at hc
   case h_2=>cases hc
   rename_i f' hf;have hf:callee= .value (.func f'):=hf;subst hf;cases hc;exact NY hE.Γ ha hu
 ·split at h
  ·rename_i g ys hg
   split at h
   case h_2=>cases h
   rename_i a ha;cases hu:a.o with
   |none=>rw [hu]at h;cases h
   |some u=>
    rw [hu]at h;exact⟨a.y u,Uh hE.Γ hg ha hu,h⟩
  split at h
  ·rename_i g ys hg
   split at h
   case h_2=>cases h
   rename_i a ha;cases hu:a.o with
   |none=>rw [hu]at h;cases h
   |some u=>
    rw [hu]at h;exact⟨a.y u,Ug hE.Θ hE.Γ hg ha hu,h⟩
  split at h
  ·rename_i y ha
   exact⟨y,O3 hE.Θ ha trivial,h⟩
  ·rename_i p dec y ha
   have h: @ite _ p dec (K y) none=some z:=h;by_cases hp:p
   ·rw [if_pos hp]at h
    exact⟨y,O3 hE.Θ ha hp,h⟩
   ·rw [if_neg hp]at h;cases h
  ·cases h
def St.putH(h:D5)(s:St)(d:Option Nat)(y:Sl):Option St:=match d with
 |none=>none
 |some d=>bif Nat.blt d h.n then(bif h.fz.contains d then(match y.frz with
   |some y'=>some ⟨A5 s.t d y',s.r⟩
   |none=>none)else some ⟨A5 s.t d y,s.r⟩)else none
def St.putX(hd:Bool)(h:D5)(s:St)(d:Option Nat)(y:Sl):Option St:=bif hd then s.putH h d y else s.put h d y
inductive Seg where
 |one (o:Oper)
 |grp (g:List Oper) (pk:Oper)
def Seg.ops:Seg->List Oper
 | .one o=>[o]
 | .grp g pk=>g++ [pk]
def Qh:List Oper->List Oper×List Oper
 | []=>([],[])
 |o::l=>bif o.guard.isSome then(o::(Qh l).1,(Qh l).2)else([],o::l)
def Uq:Nat->List Oper->List Seg
 |0,l=>l.map .one
 |_+1,[]=>[]
 |n+1,o::l=>match o.guard with
  |none=>.one o::Uq n l
  |some _=>match Qh l with
   |(g,pk::rest)=>.grp (o::g) pk::Uq n rest
   |(_,[])=>(o::l).map .one
theorem Mx: ∀l,(Qh l).1++(Qh l).2=l
 | []=>rfl
 |o::l=>by
  unfold Qh;cases hb:o.guard.isSome with
  |true=>simp [Mx l]
  |false=>rfl
theorem LM: ∀l:List Oper,(l.map Seg.one).flatMap Seg.ops=l
 | []=>rfl
 |o::l=>by rw [List.map_cons,List.flatMap_cons,LM l];rfl
theorem B1: ∀ (n:Nat) (l:List Oper),(Uq n l).flatMap Seg.ops=l
 |0,l=>LM l
 |n+1,[]=>rfl
 |n+1,o::l=>by
  unfold Uq;split
  ·rw [List.flatMap_cons,B1 n l];rfl
  ·split
   ·rename_i g pk rest ht
    rw [List.flatMap_cons,B1 n rest];have:=Mx l;rw [ht]at this;simp only at this;rw [<-this];simp [Seg.ops]
   ·exact LM _
def valB(s:St)(x:Operand):Option Bool:=match s.ev x with
 |some (.one (.c .bool _ b))=>some b
 |_=>none
theorem valB_v{s:St}{x:Operand}{b:Bool}(h:valB s x=some b):s.den.ev x= .c (.bool b):=by
 unfold valB at h;split at h
 ·rename_i d b' hs
  cases h;rw [A3 hs];rfl
 ·cases h
def DV:List Oper->(Nat->Sl)->Nat->Sl
 | [],t=>t
 |o::l,t=>match o.dst with
  |some d=>DV l (A5 t d (.one .dead))
  |none=>DV l t
def Aq(g:List Oper)(d:Nat):Bool:=g.all fun o=>match o.dst with
 |some e=>!Nat.beq e d
 |none=>true
abbrev Asm:=List (Nat×Nat×Bool)
def XV:Asm->Nat->Option Bool
 | [],_=>none
 |(i,_,v)::ρ,j=>bif Nat.beq i j then some v else XV ρ j
def XU:Asm->Nat->Option Bool
 | [],_=>none
 |(_,d,v)::ρ,c=>bif Nat.beq d c then some v else XU ρ c
def isUd:Sl->Bool
 | .tup []=>true
 |_=>false
def Om(s:St)(x:Operand):Bool:=match s.ev x with
 |some y=>!y.own
 |none=>false
def QU(ρ:Asm)(s:St):Op->Option Bool
 | .pick (.tmp c) x y=>bif Om s x&&Om s y then(match XU ρ c with
  |some v=>valB s (bif v then x else y)
  |none=>none)else none
 |_=>none
def setB(h:D5)(s:St)(d:Option Nat)(v:Bool):Option St:=match d with
 |some d=>bif Nat.blt d h.n&& !h.fz.contains d then some ⟨A5 s.t d (.one (.c .bool 0 v)),s.r⟩else none
 |none=>none
def Hm(h:D5)(s:St)(d:Option Nat):Option St:=match d with
 |some d=>bif Nat.blt d h.n then some ⟨A5 s.t d (.tup []),s.r⟩else none
 |none=>some s
def fzD(h:D5):Option Nat->Bool
 |some d=>h.fz.contains d
 |none=>false
def Lj(E:Env)(hd:Bool)(ρ:Asm)(s:St)(o:Oper)(K:St->Option Bool):Option Bool:=match QU ρ s o.op with
 |some v=>match setB E.h s o.dst v with
  |some s'=>K s'
  |none=>none
 |none=>Zl E s o.type o.op fun y=>match(bif y.own&& !fzD E.h o.dst then none else s.putX hd E.h o.dst y)with
  |some s'=>K s'
  |none=>none
def onS(o:Option St)(K:St->Option Bool):Option Bool:=match o with
 |some s=>K s
 |none=>none
def Cj(E:Env)(hd:Bool)(ops:Array Oper):List Oper->Asm->St->(Asm->St->Option Bool)->Option Bool
 | [],ρ,s,K=>K ρ s
 |o::l,ρ,s,K=>match o.guard with
  |none=>none
  |some (j,want)=>match(ops[j]?).bind (·.dst)with
   |none=>none
   |some dj=>bif isUd (s.t dj)then onS (Hm E.h s o.dst) (fun s'=>Cj E hd ops l ρ s' K)else match XV ρ j with
    |some v=>bif v==want then Lj E hd ρ s o (fun s'=>Cj E hd ops l ρ s' K)else onS (Hm E.h s o.dst) (fun s'=>Cj E hd ops l ρ s' K)
    |none=>match s.t dj with
     | .one (.c .bool _ b)=>bif Aq (o::l) dj then
      WD b (bif want then Lj E hd ((j,dj,true)::ρ) s o (fun s'=>Cj E hd ops l ((j,dj,true)::ρ) s' K)else onS (Hm E.h s o.dst) (fun s'=>Cj E hd ops l ((j,dj,true)::ρ) s' K))
       (bif want then onS (Hm E.h s o.dst) (fun s'=>Cj E hd ops l ((j,dj,false)::ρ) s' K)else Lj E hd ((j,dj,false)::ρ) s o (fun s'=>Cj E hd ops l ((j,dj,false)::ρ) s' K))else none
     |_=>none
def grpB(E:Env)(hd:Bool)(ops:Array Oper)(s:St)(g:List Oper)(pk:Oper):Option Bool:=
 Cj E hd ops g [] s fun ρ s'=>bif Nat.beq s'.r.length s.r.length then QU ρ s' pk.op else none
def XF(h:D5)(pk:Oper):Option Nat:=match pk.dst,pk.guard with
 |some d,none=>bif Nat.blt d h.n&& !h.fz.contains d then some d else none
 |_,_=>none
def partS:Bool×List Cl->Option Sl
 |(true,m)=>some (.agg m)
 |(false,y::_)=>some (.one y)
 |(false,[])=>none
def hdS:Sl->Sl
 | .one (.c (.sl _) (_+1) xs)=>.one (.c (.sl .unit) 0 (YH (JL xs) ()))
 | .one (.c (.osl _) (_+1) x)=>match x with
  |some xs=>.one (.c (.sl .unit) 0 (YH (JL xs) ()))
  |none=>.one .dead
 |_=>.one .dead
theorem hdS_v(r:List Ae)(y:Sl):hdV (y.v r)=(hdS y).v r:=by
 cases y with
 |one c=>
  cases c with
  |c t d x=>
   cases t with
   |sl t=>
    cases d with
    |zero=>rfl
    |succ d=>
     show V.nd true false 0 x.length (fun _ _=>.dead)=V.nd true false 0 (List.replicate x.length ()).length fun i k=>(([]:List V).getD k .dead)
     rw [List.length_replicate]
     congr 1
   |ptr t=>cases d<;>rfl
   |osl t=>
    cases d with
    |zero=>cases x<;>rfl
    |succ d=>
     cases x with
     |none=>rfl
     |some x=>
      show V.nd true false 0 x.length (fun _ _=>.dead)=V.nd true false 0 (List.replicate x.length ()).length fun i k=>(([]:List V).getD k .dead)
      rw [List.length_replicate]
      congr 1
   |_=>rfl
  |_=>rfl
 |_=>rfl
def dX(E:Env)(y:Nat):Bool:=E.h.fz.contains (y+1000000)
def Ng(o:Oper)(y:Nat):Bool:=match o.op with
 | .assign (.tmp z)=>Nat.beq z y
 | .move (.tmp z)=>Nat.beq z y
 |_=>false
def yB(E:Env)(ops:List Oper)(y:Nat):Bool:=dX E y&&ops.any fun o=>Ng o y
def mvF(E:Env)(ops:Array Oper)(s:St)(o:Oper):Option (Nat×Sl×Nat×Sl):=match o.op,o.dst with
 | .assign (.tmp y),some d=>bif(s.t y).own&&Nat.blt d E.h.n&& !E.h.fz.contains d&&(mvB ops o y||(dX E y&&mvR ops o y))then some (y,hdS (s.t y),d,s.t y)else none
 | .move (.tmp y),some d=>bif(s.t y).own&&Nat.blt d E.h.n&& !E.h.fz.contains d&&(mvB ops o y||(dX E y&&mvR ops o y))then some (y,hdS (s.t y),d,s.t y)else none
 | .extract (.tmp y) c,some d=>match s.t y with
  | .tup l=>match l[c]? with
   |some q=>match partS q with
    |some z=>bif z.own&&Nat.blt d E.h.n&& !E.h.fz.contains d&&exB ops o y c then some (y,.tup (l.set c (false,[])),d,z)else none
    |none=>none
   |none=>none
  |_=>none
 |_,_=>none
def notT(p:Nat):Operand->Bool
 | .tmp y=>!Nat.beq y p
 |_=>true
def lqF(E:Env)(ops:Array Oper)(s:St)(o:Oper):Option (List Nat×Option (Nat×Sl)×Option (Nat×Sl)):=match o.op,o.dst with
 | .build t ps,some d=>bif B7 ((ps.toList.map (·.2)).map (HV s))&&(match jsO ((ps.toList.map (·.2)).map (HV s))with
   | []=>false
   |a::l=>(a::l).all (mvB ops o))&&Nat.blt d E.h.n then(match E.Θ.look t with
    |some i=>bif i.agg then(match MB (fun k=>i.flds[k]?) (D6 i.ty) (ps.toList.map fun p=>(p.1,s.ev p.2))with
     |some l=>some (jsO ((ps.toList.map (·.2)).map (HV s)),none,some (d,.agg l))
     |none=>none)else none
    |none=>none)else none
 | .buildSlice t n ps,some d=>bif B7 ((ps.toList.map (·.2)).map (HV s))&&(match jsO ((ps.toList.map (·.2)).map (HV s))with
   | []=>false
   |a::l=>(a::l).all (mvB ops o))&&Nat.blt d E.h.n then(match((E.Θ.look t).bind (·.elem)).bind E.Θ.look with
    |some j=>bif Nat.blt 0 j.ty.w&&Nat.ble (n*j.ty.w) 16777216 then(match MB (fun i=>some (i*j.ty.w,j.ty.w)) (ZQ n (D6 j.ty)) (ps.toList.map fun p=>(p.1,s.ev p.2))with
     |some l=>bif l.all Cl.keep then(match Nb j.ty j.sd n (l.map (fit j.sd))with
      |some xs=>some (jsO ((ps.toList.map (·.2)).map (HV s)),none,some (d,.one (.c (.sl j.ty) (j.sd+1) xs)))
      |none=>none)else none
     |none=>none)else none
    |none=>none)else none
 | .store t (.tmp p) x,none=>match s.t p,(s.ev x).bind Sl.cellsO,E.Θ.look t with
  | .new lp,some l,some i=>bif mvB ops o p&&Nat.blt p E.h.n&&Nat.beq lp.length i.ty.w&&Nat.beq l.length i.ty.w&&l.all Cl.keep&&(jsO ([x].map (HV s))).all (mvB ops o)&&notT p x then some (jsO ([x].map (HV s)),some (p,.new (XN lp l)),none)else none
  |_,_,_=>none
 |_,_=>none
def WI:Op->Option (TypeId×Operand×Operand)
 | .call c=>match c.callee,c.args.toList,c.argTypes.toList with
  | .builtin .append,[x,y],[t,t']=>bif Nat.beq t t' then some (t,x,y)else none
  |_,_,_=>none
 |_=>none
theorem list2{α:Type}{xs:Array α}{x y:α}(h:xs.toList= [x,y]):xs= #[x,y]:=by
 cases xs;simp at h;simp [h]
theorem AaQ{op:Op}{t:TypeId}{x y:Operand}(h:WI op=some (t,x,y)):op= .call ⟨.builtin .append,#[x,y],#[t,t]⟩:=by
 unfold WI at h;split at h
 case h_2=>cases h
 rename_i c;obtain⟨callee,args,ats⟩:=c;simp only at h;split at h
 case h_2=>cases h
 rename_i x' y' t1 t2 hx hat;cases hb:Nat.beq t1 t2 with
 |false=>rw [hb]at h;cases h
 |true=>
  rw [hb]at h;cases h;have:=bqE hb;subst this;rw [list2 hx,list2 hat]
def Uw(t:Ty)(d':Nat):Option Sl->Option (Nat×List t.T)
 |some (.one (.c (.sl t') (d+1) xs))=>if h:t'=t then some (d,h▸xs)else none
 |some (.one .nil)=>some (d',[])
 |_=>none
def Uv(s:St)(t:Ty):Option Sl->Option (Nat×List t.T)
 |some (.one (.c (.sl t') (d+1) ys))=>if h:t'=t then(bif t.noO then some (d,h▸ys)else none)else none
 |y=>match W8 s t s.r.length y with
  |some (d,ys,[])=>some (d,ys)
  |_=>none
structure AO where
 p:Prop
 dec:Decidable p
 js:List Nat
 d:Nat
 y:Sl
def appO(E:Env)(ops:Array Oper)(s:St)(o:Oper):Option AO:=match WI o.op,o.dst with
 |some (t,x,y),some d=>(match((E.Θ.look t).bind (·.elem)).bind E.Θ.look with
  |some i=>bif B7 ([x,y].map (HV s))&&(match jsO ([x,y].map (HV s))with
    | []=>false
    |a::l=>(a::l).all (mvB ops o))&&Nat.blt d E.h.n&&Nat.blt 0 i.bytes&&Nat.blt 0 i.ty.w then(match Uv s i.ty (s.ev y)with
   |some (d',ys)=>match Uw i.ty d' (s.ev x)with
    |some (dx,xs)=>bif dOK i.ty d' dx then some ⟨JL xs+JL ys<=VX i.bytes,inferInstance,jsO ([x,y].map (HV s)),d,.one (.c (.sl i.ty) (dx+1) (catX xs ys))⟩else none
    |none=>none
   |none=>none)else none
  |none=>none)
 |_,_=>none
def YC:Option (Nat×Sl)->(Nat->Sl)->Nat->Sl
 |some (d,y),t=>A5 t d y
 |none,t=>t
def WZ{R:Type}(E:Env)(hd:Bool)(ops:Array Oper):List Seg->St->(St->Option R)->Option R
 | [],s,K=>K s
 | .one o::l,s,K=>match o.guard with
  |none=>match mvF E ops s o with
   |some (y,u,d,z)=>WZ E hd ops l ⟨A5 (A5 s.t y u) d z,s.r⟩ K
   |none=>match(bif hd then lqF E ops s o else none)with
    |some (js,pu,ds)=>WZ E hd ops l ⟨YC ds (YC pu (Cq js s.t)),s.r⟩ K
    |none=>match(bif hd then appO E ops s o else none)with
     |some A=>oif A.p A.dec (WZ E hd ops l ⟨A5 (Cq A.js s.t) A.d A.y,s.r⟩ K)
     |none=>Zl E s o.type o.op fun y=>match s.putX hd E.h o.dst y with
      |some s'=>WZ E hd ops l s' K
      |none=>none
  |some _=>none
 | .grp g pk::l,s,K=>match XF E.h pk with
  |some d=>I7 (grpB E hd ops s g pk) fun v=>WZ E hd ops l ⟨A5 (DV g s.t) d (.one (.c .bool 0 v)),s.r⟩ K
  |none=>none
theorem B6{a b:Nat}(h:a≠b):Nat.beq a b=false:=by
 cases hx:Nat.beq a b with
 |false=>rfl
 |true=>exact absurd (bqE hx) h
theorem H0: ∀ (g:List Oper) (t:Nat->Sl) (i:Nat),DV g t i=if Aq g i then t i else .one .dead
 | [],t,i=>rfl
 |o::g,t,i=>by
  have hc:Aq (o::g) i=((match o.dst with
   |some e=>!Nat.beq e i
   |none=>true)&&Aq g i):=rfl
  rw [hc];unfold DV;cases hd:o.dst with
  |none=>
   simp only [Bool.true_and];exact H0 g t i
  |some d=>
   simp only;rw [H0 g];by_cases hdi:d=i
   ·subst hdi
    simp [A5]
   ·have h1:Nat.beq d i=false:=B6 hdi
    have h2:Nat.beq i d=false:=B6 (Ne.symm hdi);simp [A5,h1,h2]
def le1(v v':V):Prop:=v=v'\/(v'= .dead/\AH v=false)
def VLe(t t':Nat->V):Prop:=∀i,le1 (t i) (t' i)
theorem VLe.refl(t:Nat->V):VLe t t:=fun _=>.inl rfl
theorem VLe.upd{t t':Nat->V}(h:VLe t t'){d:Nat}{v v':V}(hv:le1 v v'):VLe (AZ t d v) (AZ t' d v'):=by
 intro i;unfold AZ;split
 ·exact hv
 ·exact h i
theorem VLe.ev{t t':Nat->V}{σ:List V}(h:VLe t t')(x:Operand):le1 (Ms.ev ⟨t,σ⟩ x) (Ms.ev ⟨t',σ⟩ x):=by
 cases x with
 |tmp i=>exact h i
 |_=>exact .inl rfl
theorem qop_le{P:Program}{σ:List V}{t t':Nat->V}{op:Op}{K:V->Prop}(h:VLe t t')(hl: ∀x∈op.operands,Ms.ev ⟨t',σ⟩ x≠.dead)(hq:N8 P σ (Ms.ev ⟨t',σ⟩) op K):N8 P σ (Ms.ev ⟨t,σ⟩) op K:=
 Ka (fun x hx=>((h.ev (σ:=σ) x).resolve_right fun e=>hl x hx e.1).symm) hq
section head
variable {P:Program} {E:Env}
theorem putH_v{s s':St}{d:Option Nat}{y:Sl}{t:Nat->V}{K:(Nat->V)->Prop}(hp:s.putH E.h d y=some s')(ht:VLe t s.den.t)(hK: ∀t',VLe t' s'.den.t->(∀i,d≠some i->t' i=t i)->(∀e,d=some e->(y.own&& !fzD E.h d)=false->AH (t' e)=false)->K t'):QK E.h d t K (y.v s.r):=by
 unfold St.putH at hp;split at hp
 ·cases hp
 ·rename_i d
  cases hb:Nat.blt d E.h.n with
  |false=>rw [hb]at hp;cases hp
  |true=>
   rw [hb]at hp;simp only [cond_true]at hp
   have hfz: ∀v:V,AH (frz v)=false:=by
    intro v
    induction v with
    |many t n f ih=>show((List.range n).any fun k=>AH (frz (f k)))=false;rw [List.any_eq_false];intro k _;rw [ih k];simp
    |nd=>rfl
    |_=>rfl
   refine⟨blE hb,hK _ ?_ (fun i hi=>if_neg fun e=>hi (by rw [e])) fun e he ho=>?_⟩
   rotate_left
   ·cases he
    unfold AZ;rw [if_pos rfl];split
    ·exact hfz _
    ·rename_i hnf
     rw [Sl.own_v];have hnf:E.h.fz.contains d=false:=by simpa using hnf
     have ho:(y.own&& !E.h.fz.contains d)=false:=ho;rw [hnf]at ho;simpa using ho
   cases hf:E.h.fz.contains d with
   |true=>
    rw [hf]at hp;simp only [cond_true]at hp;split at hp
    ·rename_i y' hy
     cases hp;simp only [if_true];rw [Sl.frz_v hy];show VLe _ (fun i=>(A5 s.t d y' i).v s.r)
     rw [Ci];exact ht.upd (.inl rfl)
    ·cases hp
   |false=>
    rw [hf]at hp;simp only [cond_false,Option.some.injEq]at hp;subst hp;simp only [Bool.false_eq_true,if_false];show VLe _ (fun i=>(A5 s.t d y i).v s.r)
    rw [Ci];exact ht.upd (.inl rfl)
theorem putH_r{s s':St}{d:Option Nat}{y:Sl}(hp:s.putH E.h d y=some s'):s'.r=s.r/\∃e,d=some e/\∀i,i≠e->s'.t i=s.t i:=by
 unfold St.putH at hp;split at hp
 ·cases hp
 ·rename_i d
  have key: ∀y':Sl,∀i,i≠d->A5 s.t d y' i=s.t i:=fun y' i hi=>by
   unfold A5;cases hx:Nat.beq i d with
   |false=>rfl
   |true=>exact absurd (bqE hx) hi
  cases hb:Nat.blt d E.h.n with
  |false=>rw [hb]at hp;cases hp
  |true=>
   rw [hb]at hp;simp only [cond_true]at hp;cases hf:E.h.fz.contains d with
   |true=>
    rw [hf]at hp;simp only [cond_true]at hp;split at hp
    ·cases hp;exact⟨rfl,d,rfl,key _⟩
    ·cases hp
   |false=>
    rw [hf]at hp;simp only [cond_false,Option.some.injEq]at hp;subst hp;exact⟨rfl,d,rfl,key _⟩
theorem AU{o:Oper}{g:List Oper}{d:Nat}(h:Aq (o::g) d=true):o.dst≠some d/\Aq g d=true:=by
 have hc:Aq (o::g) d=((match o.dst with
  |some e=>!Nat.beq e d
  |none=>true)&&Aq g d):=rfl
 rw [hc,bAE]at h;refine⟨fun hd=>?_,h.2⟩
 rw [hd]at h;have:=h.1;simp only [Nat.beq_refl,Bool.not_true]at this;cases this
theorem Wg{l:List V}{c k:Nat}:(l.set c .dead).getD k .dead=if k=c then .dead else l.getD k .dead:=by
 by_cases h:k=c
 ·subst h
  rw [if_pos rfl];by_cases hl:k<l.length
  ·simp [hl]
  ·rw [List.set_eq_of_length_le (by omega),gDE,List.getElem?_eq_none (by omega)];rfl
 ·rw [if_neg h,Al (Ne.symm h)]
theorem mvF_v{E:Env}{ops:Array Oper}{s:St}{o:Oper}{y d:Nat}{u z:Sl}{t:Nat->V}(ht:VLe t s.den.t)(h:mvF E ops s o=some (y,u,d,z)):
  o.dst=some d/\d<E.h.n/\E.h.fz.contains d=false/\∃ys,(∀p∈ys,JO ops o p=true)/\mq t o ys (z.v s.r)/\VLe (AZ (AV ys t) d (z.v s.r)) (St.den ⟨A5 (A5 s.t y u) d z,s.r⟩).t/\
   ((∃e∈o.after,Region.binds .any e=true/\AQ ops e.on=some y)\/(dX E y=true/\Ng o y=true)):=by
 have own: ∀y,(s.t y).own=true->t y=s.den.t y:=by
  intro y hy;rcases ht y with e|e
  ·exact e
  ·have h5:AH (s.den.t y)=(s.t y).own:=Sl.own_v (s.t y)
   rw [e.1,hy]at h5;cases h5
 have vle: ∀ys (V0:V),(∀x,AV ys t x=if x=y then V0 else t x)->le1 V0 (u.v s.r)->VLe (AZ (AV ys t) d (z.v s.r)) (St.den ⟨A5 (A5 s.t y u) d z,s.r⟩).t:=by
  intro ys V0 hk hu;show VLe _ (fun i=>(A5 (A5 s.t y u) d z i).v s.r)
  rw [Ci];refine VLe.upd ?_ (.inl rfl);rw [Ci];intro i;rw [hk];unfold AZ;split
  ·exact hu
  ·exact ht i
 have kM: ∀ (y:Nat) (tk:Tk) x,AV [(y,tk)] t x=if x=y then kapp tk (t y)else t x:=by
  intro y tk x;unfold AV;by_cases hx:x=y
  ·subst hx
   rw [if_pos rfl];show Jj (if x=x then some tk else none) _=_
   rw [if_pos rfl];rfl
  ·rw [if_neg hx]
   show Jj (if y=x then some tk else none) _=_
   rw [if_neg (Ne.symm hx)];rfl
 have edge: ∀y,mvB ops o y=true->∃e∈o.after,Region.binds .any e=true/\AQ ops e.on=some y:=by
  intro y hy;unfold mvB at hy;rw [bAE]at hy;exact H2 hy.2
 have whole: ∀ (y' d':Nat),(o.op= .assign (.tmp y')\/o.op= .move (.tmp y'))->o.dst=some d'->(bif(s.t y').own&&Nat.blt d' E.h.n&& !E.h.fz.contains d'&&(mvB ops o y'||(dX E y'&&mvR ops o y'))then some (y',hdS (s.t y'),d',s.t y')else none)=some (y,u,d,z)->
   o.dst=some d/\d<E.h.n/\E.h.fz.contains d=false/\∃ys,(∀p∈ys,JO ops o p=true)/\mq t o ys (z.v s.r)/\VLe (AZ (AV ys t) d (z.v s.r)) (St.den ⟨A5 (A5 s.t y u) d z,s.r⟩).t/\
   ((∃e∈o.after,Region.binds .any e=true/\AQ ops e.on=some y)\/(dX E y=true/\Ng o y=true)):=by
  intro y' d' hop hdst h;cases hb:((s.t y').own&&Nat.blt d' E.h.n&& !E.h.fz.contains d'&&(mvB ops o y'||(dX E y'&&mvR ops o y')))with
  |false=>rw [hb]at h;cases h
  |true=>
   rw [hb]at h;simp only [cond_true,Option.some.injEq,Prod.mk.injEq]at h;obtain⟨rfl,rfl,rfl,rfl⟩:=h;simp only [bAE,Bool.not_eq_true']at hb;obtain⟨⟨⟨h1,h2⟩,h3⟩,h4⟩:=hb
   exact⟨hdst,blE h2,h3,[(y',.put (hdV ((s.t y').v s.r)))],fun p hp=>by
    rw [List.mem_singleton.1 hp];show(mvB ops o y'||mvR ops o y')=true;rw [Bool.or_eq_true]at h4⊢;exact h4.imp id fun h=>by rw [bAE]at h;exact h.2,.inl ⟨y',hop,rfl,(own y' h1).symm⟩,vle _ (hdV ((s.t y').v s.r)) (fun x=>kM y' (.put (hdV ((s.t y').v s.r))) x) (.inl (hdS_v s.r (s.t y'))),(by
    rw [Bool.or_eq_true]at h4;rcases h4 with h4|h4
    ·exact .inl (edge y' h4)
    ·rw [bAE]at h4
     refine .inr ⟨h4.1,?_⟩;unfold Ng;rcases hop with hop|hop<;>(rw [hop];exact Nat.beq_refl _))⟩
 unfold mvF at h;split at h
 ·rename_i y' d' hop hdst
  exact whole y' d' (.inl hop) hdst h
 ·rename_i y' d' hop hdst
  exact whole y' d' (.inr hop) hdst h
 ·rename_i y' c d' hop hdst
  split at h
  case h_2=>cases h
  rename_i l hl;split at h
  case h_2=>cases h
  rename_i q hq;split at h
  case h_2=>cases h
  rename_i z' hz;cases hb:(z'.own&&Nat.blt d' E.h.n&& !E.h.fz.contains d'&&exB ops o y' c)with
  |false=>rw [hb]at h;cases h
  |true=>
   rw [hb]at h;simp only [cond_true,Option.some.injEq,Prod.mk.injEq]at h;obtain⟨rfl,rfl,rfl,rfl⟩:=h;simp only [bAE,Bool.not_eq_true']at hb;obtain⟨⟨⟨h1,h2⟩,h3⟩,h4⟩:=hb;obtain⟨hc,hq'⟩:=List.getElem?_eq_some_iff.1 hq
   -- the part's value
   have hzv:z'.v s.r=(if q.1 then Ai (q.2.map (Cl.v s.r))else(q.2.map (Cl.v s.r)).getD 0 .dead):=by
    obtain⟨b,m⟩:=q;cases b with
    |true=>cases hz;rfl
    |false=>cases m with
     |nil=>cases hz
     |cons a m=>cases hz;rfl
   obtain⟨L,hL⟩: ∃L:List V,L=l.map fun p=>if p.1 then Ai (p.2.map (Cl.v s.r))else(p.2.map (Cl.v s.r)).getD 0 .dead:=⟨_,rfl⟩
   have hLc:L.getD c .dead=z'.v s.r:=by
    rw [hL,hzv];simp [List.getElem?_map,hq]
   have hcL:c<L.length:=by rw [hL];simpa using hc
   have hden:s.den.t y'=CP L:=by
    show(s.t y').v s.r=_;rw [hl,hL];rfl
   have hown:(s.t y').own=true:=by
    have h5:AH (s.den.t y')=(s.t y').own:=Sl.own_v (s.t y');rw [<-h5,hden];have h6:AH (z'.v s.r)=true:=by rw [Sl.own_v];exact h1
    show AH (V.many .tu L.length fun k=>L.getD k .dead)=true
    simp only [AH];rw [List.any_eq_true];exact⟨c,List.mem_range.2 hcL,by rw [hLc];exact h6⟩
   have hty:=own y' hown;refine⟨hdst,blE h2,h3,[(y',.part c)],fun p hp=>by rw [List.mem_singleton.1 hp];exact h4,.inr ⟨y',c,L.length,fun k=>L.getD k .dead,hop,rfl,hty.trans hden,hcL,hLc.symm⟩,vle _ _ (fun x=>kM y' (.part c) x) (.inl ?_),?_⟩
   ·rw [hty,hden]
    show Nq c (V.many .tu L.length fun k=>L.getD k .dead)=CP ((l.set c (false,[])).map fun p=>if p.1 then Ai (p.2.map (Cl.v s.r))else(p.2.map (Cl.v s.r)).getD 0 .dead)
    rw [List.map_set,<-hL];show V.many _ _ _=V.many _ (L.set c V.dead).length _;rw [List.length_set]
    congr 1
    funext k
    exact Wg.symm
   ·unfold exB at h4
    rw [bAE]at h4;exact .inl (H2 h4.2)
 ·cases h
theorem lqF_v{P:Program}{E:Env}(hE:EOK P E){ops:Array Oper}{s:St}{o:Oper}{js:List Nat}{pu ds:Option (Nat×Sl)}{t:Nat->V}(ht:VLe t s.den.t)(h:lqF E ops s o=some (js,pu,ds)):
  ∃ys r,(∀p∈ys,JO ops o p=true)/\XO o.op=true/\LQ P E.h.n s.den.σ o t ys r/\VLe (Uo o.dst r (AV ys t)) (St.den ⟨YC ds (YC pu (Cq js s.t)),s.r⟩).t/\
   (∀i,Aq ops.toList i=true->o.dst≠some i->YC ds (YC pu (Cq js s.t)) i=s.t i):=by
 have own: ∀y,AH (t y)=(s.t y).own:=by
  intro y;have h5:AH (s.den.t y)=(s.t y).own:=Sl.own_v (s.t y);rcases ht y with e|⟨e1,e2⟩
  ·rw [e];exact h5
  ·rw [e1]at h5;rw [e2,<-h5];rfl
 have hev: ∀x,s.den.ev x≠.dead->Ms.ev ⟨t,s.den.σ⟩ x=s.den.ev x:=fun x hx=>((ht.ev (σ:=s.den.σ) x).resolve_right fun e=>hx e.1)
 have edge: ∀y,mvB ops o y=true->∃e∈o.after,Region.binds .any e=true/\AQ ops e.on=some y:=by
  intro y hy;unfold mvB at hy;rw [bAE]at hy;exact H2 hy.2
 have notW: ∀y i,Aq ops.toList i=true->mvB ops o y=true->i≠y:=by
  rintro y i hn hy rfl
  obtain⟨e,_,_,hed⟩:=edge i hy;unfold AQ at hed;rw [Option.bind_eq_some_iff]at hed;obtain⟨ok,hok,hokd⟩:=hed;have hmem:ok∈ops.toList:=by
   rw [<-Array.getElem?_toList]at hok;exact List.mem_of_getElem? hok
  have:Aq [ok] i=true:=by
   unfold Aq at hn⊢;rw [aET]at hn⊢;exact fun o ho=>hn o (by rw [List.mem_singleton.1 ho];exact hmem)
  exact(AU this).1 hokd
 have deadN: ∀ (js:List Nat) i,(∀y∈js,mvB ops o y=true)->Aq ops.toList i=true->Cq js s.t i=s.t i:=by
  intro js i hj hn;unfold Cq;have:js.contains i=false:=by
   cases hc:js.contains i with
   |false=>rfl
   |true=>exact absurd rfl (notW i i hn (hj i (by simpa using hc)))
  rw [this];rfl
 have kill: ∀ (js:List Nat) (xs:List Operand),xs.map (HU t)=xs.map (HV s)->js=jsO (xs.map (HV s))->VLe (AV ((AY t xs).map fun y=>(y,.all)) t) (fun i=>(Cq js s.t i).v s.r):=by
  intro js xs hx hj i;rw [CN,Ck hx,<-hj];show le1 _ ((bif js.contains i then Sl.one Cl.dead else s.t i).v s.r);by_cases hi:i∈js
  ·have:js.contains i=true:=by simpa using hi
   rw [if_pos hi,this];exact .inl rfl
  ·have:js.contains i=false:=by simpa using hi
   rw [if_neg hi,this];exact ht i
 unfold lqF at h;split at h
 case h_4=>cases h
 ·-- a struct
  rename_i ty ps d hop hdst;obtain⟨xs,hxs⟩: ∃xs,xs=ps.toList.map (·.2):=⟨_,rfl⟩
  rw [<-hxs]at h;have hmap:=Pw own xs
  cases hb:(B7 (xs.map (HV s))&&(match jsO (xs.map (HV s))with
   | []=>false
   |a::l=>(a::l).all (mvB ops o))&&Nat.blt d E.h.n)with
  |false=>rw [hb]at h;cases h
  |true=>
  rw [hb]at h;simp only [cond_true]at h;simp only [bAE]at hb;obtain⟨⟨h1,h2⟩,h3⟩:=hb;have h3:d<E.h.n:=blE h3
  have hmv: ∀y∈jsO (xs.map (HV s)),mvB ops o y=true:=by
   intro y hy;split at h2
   ·cases h2
   ·rename_i a l e;rw [e]at hy;exact aET.1 h2 y hy
  split at h
  case h_2=>cases h
  rename_i i hi;cases hag:i.agg with
  |false=>rw [hag]at h;cases h
  |true=>
  rw [hag]at h;simp only [cond_true]at h;split at h
  case h_2=>cases h
  rename_i l hl;cases h;obtain⟨k1,k2⟩:=Le (ev:=Ms.ev ⟨t,s.den.σ⟩) _ _ _ (fun p _=>hev p.2) hl
  rw [IM]at k2;have hbi:=hE.Θ.bd hi;rw [hag]at hbi;refine⟨_,_,fun p hp=>?_,by rw [hop];rfl,Yt hop hdst h3 hbi (by rw [<-hxs,hmap];exact h1) k1 k2,?_,fun i hn hd=>?_⟩
  ·rw [<-hxs,Ck hmap]at hp
   obtain⟨y,hy,rfl⟩:=List.mem_map.1 hp;exact hmv y hy
  ·rw [hdst,<-hxs]
   show VLe (AZ _ d (Ai (l.map (Cl.v s.r)))) (fun i=>(A5 (Cq _ s.t) d (.agg l) i).v s.r)
   rw [Ci];exact(kill _ xs hmap rfl).upd (.inl rfl)
  ·show A5 (Cq _ s.t) d _ i=_
   unfold A5;rw [B6 fun e=>hd (by rw [hdst,e])]
   exact deadN _ i hmv hn
 ·-- a slice's literal
  rename_i ty n ps d hop hdst;obtain⟨xs,hxs⟩: ∃xs,xs=ps.toList.map (·.2):=⟨_,rfl⟩
  rw [<-hxs]at h;have hmap:=Pw own xs
  cases hb:(B7 (xs.map (HV s))&&(match jsO (xs.map (HV s))with
   | []=>false
   |a::l=>(a::l).all (mvB ops o))&&Nat.blt d E.h.n)with
  |false=>rw [hb]at h;cases h
  |true=>
  rw [hb]at h;simp only [cond_true]at h;simp only [bAE]at hb;obtain⟨⟨h1,h2⟩,h3⟩:=hb;have h3:d<E.h.n:=blE h3
  have hmv: ∀y∈jsO (xs.map (HV s)),mvB ops o y=true:=by
   intro y hy;split at h2
   ·cases h2
   ·rename_i a l e;rw [e]at hy;exact aET.1 h2 y hy
  split at h
  case h_2=>cases h
  rename_i j hj;obtain⟨e,hsl,_⟩:=Dv hE.Θ hj;cases hb2:(Nat.blt 0 j.ty.w&&Nat.ble (n*j.ty.w) 16777216)with
  |false=>rw [hb2]at h;cases h
  |true=>
  rw [hb2]at h;simp only [cond_true]at h;simp only [bAE]at hb2;have hw:=P5 hb2.1;have hnw:=blE hb2.2;split at h
  case h_2=>cases h
  rename_i l hl;cases hk:l.all Cl.keep with
  |false=>rw [hk]at h;cases h
  |true=>
  rw [hk]at h;simp only [cond_true]at h;split at h
  case h_2=>cases h
  rename_i zs hzs;cases h;obtain⟨k1,k2⟩:=Le (ev:=Ms.ev ⟨t,s.den.σ⟩) _ _ _ (fun p _=>hev p.2) hl
  rw [Vj s.r j.ty n hw]at k2;obtain⟨p1,p2,p3⟩:=Of s.r n _ zs hzs
  have hsub:Sub (.nd true true j.ty.w n fun i k=>(l.map (Cl.v s.r)).getD (i*j.ty.w+k) .dead) (cV (.sl j.ty) (j.sd+1) zs):=by
   show Sub _ (V.nd true true j.ty.w zs.length _);rw [p1];refine⟨_,rfl,fun i k hi hk=>?_⟩
   have:=p3 i k hi hk;rw [List.map_map]at this;have e:(Cl.v s.r∘fit j.sd)=Cl.v s.r:=funext fun y=>(fitO_v _ s.r y).1
   rw [e]at this;exact this
  refine⟨_,_,fun p hp=>?_,by rw [hop];rfl,(Mi hop hdst h3 hsl hw hnw (by rw [<-hxs,hmap];exact h1) k1 k2 ?_).sub (fun _ _=>Sub.refl _) hsub,?_,fun i hn hd=>?_⟩
  ·rw [<-hxs,Ck hmap]at hp
   obtain⟨y,hy,rfl⟩:=List.mem_map.1 hp;exact hmv y hy
  ·intro v hv
   obtain⟨y,hy,rfl⟩:=List.mem_map.1 hv;exact(V5 (aET.1 hk y hy)).1
  ·rw [hdst,<-hxs]
   show VLe (AZ _ d _) (fun i=>(A5 (Cq _ s.t) d _ i).v s.r)
   rw [Ci];exact(kill _ xs hmap rfl).upd (.inl rfl)
  ·show A5 (Cq _ s.t) d _ i=_
   unfold A5;rw [B6 fun e=>hd (by rw [hdst,e])]
   exact deadN _ i hmv hn
 ·-- a store
  rename_i ty p x hop hdst;split at h
  case h_2=>cases h
  rename_i lp l i hp hl hi;cases hb:(mvB ops o p&&Nat.blt p E.h.n&&Nat.beq lp.length i.ty.w&&Nat.beq l.length i.ty.w&&l.all Cl.keep&&(jsO ([x].map (HV s))).all (mvB ops o)&&notT p x)with
  |false=>rw [hb]at h;cases h
  |true=>
  rw [hb]at h;simp only [cond_true,Option.some.injEq,Prod.mk.injEq]at h;obtain⟨rfl,rfl,rfl⟩:=h;simp only [bAE]at hb;obtain⟨⟨⟨⟨⟨⟨h1,h2⟩,h3⟩,h4⟩,h5⟩,h6⟩,h7⟩:=hb;have h2:p<E.h.n:=blE h2;have h3:=bqE h3;have h4:=bqE h4;obtain⟨y,hy,hyl⟩:=Option.bind_eq_some_iff.1 hl;obtain⟨g1,g2,g3⟩:=P3 (r:=s.r) hyl;have hx:Ms.ev ⟨t,s.den.σ⟩ x=y.v s.r:=by
   rw [<-A3 hy];refine hev x ?_;rw [A3 hy];intro e;rw [e]at g1;cases g1
  have htp:t p=Bj true (lp.map Cl.v0):=by
   have e:s.den.t p=Bj true (lp.map Cl.v0):=by show(s.t p).v s.r=_;rw [hp];rfl
   rcases ht p with h|⟨h,_⟩
   ·rw [h,e]
   ·rw [e]at h;cases h
  have hxp:x≠.tmp p:=by
   rintro rfl
   have h7:(!Nat.beq p p)=true:=h7;rw [Nat.beq_refl]at h7;cases h7
  have hmap:=Pw own [x];have hlv:l.map (Cl.v s.r)=l.map Cl.v0:=List.map_congr_left fun c hc=>(V5 (aET.1 h5 c hc)).2
  have hmv: ∀y∈jsO ([x].map (HV s)),mvB ops o y=true:=aET.1 h6;have hti:=hE.Θ.ty hi
  have hlq:=Ys (P:=P) (N:=E.h.n) (σ:=s.den.σ) (t:=t) hop hdst hti htp (by simpa using h3) h2 hxp (by rw [hx];exact g1) (by rw [hx,g2];simpa using h4)
   (by
    rw [hx,g2];intro v hv;obtain⟨c,hc,rfl⟩:=List.mem_map.1 hv;exact(V5 (aET.1 h5 c hc)).1)
   (by
    rw [hx,g2];intro v hv;obtain⟨c,hc,rfl⟩:=List.mem_map.1 hv;exact g3 c hc)
  rw [hx,g2,hlv]at hlq;have hnp:p∉AY t [x]:=by
   intro hm;rw [Ck hmap]at hm;cases x with
   |tmp z=>
    have hz:z≠p:=fun e=>hxp (by rw [e])
    have hm:p∈jsO [bif(s.t z).own then some z else none]:=hm;cases ho:(s.t z).own with
    |true=>rw [ho]at hm;exact hz (List.mem_singleton.1 hm).symm
    |false=>rw [ho]at hm;cases hm
   |const v=>cases hm
   |global g=>cases hm
   |func f=>cases hm
  have hsub:Sub (Bj true (l.map Cl.v0)) (Bj true ((XN lp l).map Cl.v0)):=by
   unfold Bj;have e:((XN lp l).map Cl.v0).length=(l.map Cl.v0).length:=by simp [Pz]
   rw [e];refine⟨_,rfl,fun i k hi hk=>?_⟩
   obtain rfl:i=0:=by omega
   exact YQ lp l k
  refine⟨(p,.put (Bj true ((XN lp l).map Cl.v0)))::(AY t [x]).map fun y=>(y,.all),.dead,fun q hq=>?_,by rw [hop];rfl,hlq.sub (fun z v=>?_) (Sub.refl _),?_,fun i hn hd=>?_⟩
  ·rcases List.mem_cons.1 hq with rfl|hq
   ·exact(show(mvB ops o p||mvR ops o p)=true by rw [h1];rfl)
   ·rw [Ck hmap]at hq
    obtain⟨y,hy,rfl⟩:=List.mem_map.1 hq;exact hmv y hy
  ·by_cases hz:z=p
   ·subst hz;rw [IG,IG];exact hsub
   ·rw [IF hz,IF hz];exact Sub.refl _
  ·rw [hdst]
   show VLe (AV _ t) (fun i=>(A5 (Cq _ s.t) p (.new (XN lp l)) i).v s.r)
   rw [Ci];have hk:=kill _ [x] hmap rfl;intro i;unfold AZ;by_cases hi:i=p
   ·subst hi
    rw [if_pos rfl];unfold AV;rw [IG];exact .inl rfl
   ·rw [if_neg hi]
    have:=hk i;unfold AV at this⊢;rw [IF hi];exact this
  ·show A5 (Cq _ s.t) p _ i=_
   unfold A5;rw [B6 (notW p i hn h1)];exact deadN _ i hmv hn
theorem own_le{s:St}{t:Nat->V}(ht:VLe t s.den.t)(y:Nat):AH (t y)=(s.t y).own:=by
 have h5:AH (s.den.t y)=(s.t y).own:=Sl.own_v (s.t y);rcases ht y with e|⟨e1,e2⟩
 ·rw [e];exact h5
 ·rw [e1]at h5;rw [e2,<-h5];rfl
theorem Z9{ops:Array Oper}{o:Oper}{y i:Nat}(hn:Aq ops.toList i=true)(hy:mvB ops o y=true):i≠y:=by
 rintro rfl
 unfold mvB at hy;rw [bAE]at hy;obtain⟨e,_,_,hed⟩:=H2 hy.2;unfold AQ at hed;rw [Option.bind_eq_some_iff]at hed;obtain⟨ok,hok,hokd⟩:=hed;have hmem:ok∈ops.toList:=by
  rw [<-Array.getElem?_toList]at hok;exact List.mem_of_getElem? hok
 have:Aq [ok] i=true:=by
  unfold Aq at hn⊢;rw [aET]at hn⊢;exact fun o ho=>hn o (by rw [List.mem_singleton.1 ho];exact hmem)
 exact(AU this).1 hokd
theorem AaI{ops:Array Oper}{o:Oper}{s:St}{js:List Nat}{i:Nat}(hj: ∀y∈js,mvB ops o y=true)(hn:Aq ops.toList i=true):Cq js s.t i=s.t i:=by
 unfold Cq;have:js.contains i=false:=by
  cases hc:js.contains i with
  |false=>rfl
  |true=>exact absurd rfl (Z9 hn (hj i (by simpa using hc)))
 rw [this];rfl
theorem AaH{s:St}{t:Nat->V}(ht:VLe t s.den.t){js:List Nat}{xs:List Operand}(hx:xs.map (HU t)=xs.map (HV s))(hj:js=jsO (xs.map (HV s))):VLe (AV ((AY t xs).map fun y=>(y,.all)) t) (fun i=>(Cq js s.t i).v s.r):=by
 intro i;rw [CN,Ck hx,<-hj];show le1 _ ((bif js.contains i then Sl.one Cl.dead else s.t i).v s.r);by_cases hi:i∈js
 ·have:js.contains i=true:=by simpa using hi
  rw [if_pos hi,this];exact .inl rfl
 ·have:js.contains i=false:=by simpa using hi
  rw [if_neg hi,this];exact ht i
def onlyS(s:St)(y:Operand):St:=⟨fun i=>match y with
 | .tmp z=>bif Nat.beq i z then s.t i else .one .dead
 |_=>.one .dead,s.r⟩
theorem NL{N:Nat}{s:St}{t:Nat->V}(ht:VLe t s.den.t){op:Op}{ty:Ty}{x y:Operand}{d:Nat}{ys:List ty.T}(hyo:y∈op.operands)(h:Uv s ty (s.ev y)=some (d,ys)):
  ∀ (C:Ctx) (ρ:Nat->Value) (F:Nat->Nat->Prop) (a:Act) (w:World) (D:Nat->Prop) (T:Nat->Nat->Prop) (t':Nat->V),(∀z∈HW op,t' z=t z)->PR C N s.den.σ ρ F t' a w D T->
   ∃Fy,Ul D w ty.w ys.length (fun i k=>(tyV ty d (ys.getD i ty.dflt)).getD k .dead) (a.eval y) Fy/\(∀i k c,i<ys.length->k<ty.w->Fy i k c->opF t' T [x,y] 1 c)/\
    ∀i k i' k' c,i<ys.length->k<ty.w->i'<ys.length->k'<ty.w->(i≠i'\/k≠k')->Fy i k c->¬Fy i' k' c:=by
 intro C ρ F a w D T t' hag hp;have hev: ∀v,s.ev y=some v->v.v s.r≠.dead->Ms.ev ⟨t',s.den.σ⟩ y=v.v s.r:=by
  intro v hv hne;rw [<-A3 hv]at hne⊢;have h1:Ms.ev ⟨t,s.den.σ⟩ y=s.den.ev y:=((ht.ev (σ:=s.den.σ) y).resolve_right fun e=>hne e.1)
  rw [<-h1];cases y with
  |tmp z=>exact hag z (DG hyo)
  |const v=>rfl
  |global g=>rfl
  |func f=>rfl
 unfold Uv at h;split at h
 ·rename_i t1 d1 ys1 hy
  split at h
  case isFalse=>cases h
  rename_i e;subst e;cases hno:t1.noO with
  |false=>rw [hno]at h;cases h
  |true=>
  rw [hno]at h;cases h;have hv:=hev _ hy (by intro e;cases e)
  have hr:=hp.opF_rel (xs:=[x,y]) (j:=1) (x:=y) rfl;rw [hv]at hr;exact Vp (R:=An s.den.σ ρ w) hr fun i k hi hk=>C0 _ _ _ k hno hk
 ·rename_i hne
  split at h
  case h_2=>cases h
  rename_i d1 ys1 hy;cases h
  -- the value's slot owns nothing
  obtain⟨s2,hs2d⟩: ∃s2,s2=onlyS s y:=⟨_,rfl⟩;have hσ2:s2.den.σ=s.den.σ:=by rw [hs2d];rfl
  have hs2:s2.ev y=s.ev y:=by
   rw [hs2d];cases y with
   |tmp z=>
    show some (bif Nat.beq z z then s.t z else .one .dead)=some (s.t z);rw [Nat.beq_refl];rfl
   |const v=>rfl
   |global g=>rfl
   |func f=>rfl
  have hdn: ∀z,y= .tmp z->(t' z=s.den.t z/\(s.t z).own=false/\z<N):=by
   intro z hz;subst hz;have hy:W8 s ty s.r.length (some (s.t z))=some (d,ys,[]):=hy
   have hnotown:(s.t z).own=false:=by
    have hy:=(WH hy).1;unfold Uj at hy;split at hy
    case h_4=>cases hy
    ·rename_i e;rw [Option.some.inj e];rfl
    ·rename_i e;rw [Option.some.inj e];rfl
    ·rename_i e;rw [Option.some.inj e];rfl
   have hlive:(s.t z).v s.r≠.dead:=by
    have hy:=(WH hy).1;unfold Uj at hy;split at hy
    case h_4=>cases hy
    ·rename_i e;rw [Option.some.inj e];intro e';cases e'
    ·rename_i e;rw [Option.some.inj e];intro e';cases e'
    ·rename_i e;rw [Option.some.inj e];intro e';cases e'
   have e1:t' z=s.den.t z:=hev (s.t z) rfl hlive;refine⟨e1,hnotown,Nat.lt_of_not_le fun hz=>?_⟩
   have:=hp.dd z hz;rw [e1]at this;exact hlive this
  have hden: ∀i,s2.den.t i= .dead\/(s2.den.t i=t' i/\AH (t' i)=false):=by
   intro i;rw [hs2d];cases y with
   |tmp z=>
    show(bif Nat.beq i z then s.t i else .one .dead).v s.r= .dead\/_;by_cases hiz:i=z
    ·subst hiz
     obtain⟨e1,e2,_⟩:=hdn i rfl;right;refine⟨?_,?_⟩
     ·show(bif Nat.beq i i then s.t i else .one .dead).v s.r=_
      rw [Nat.beq_refl,e1];rfl
     ·rw [e1]
      have h5:AH (s.den.t i)=(s.t i).own:=Sl.own_v (s.t i);rw [h5];exact e2
    ·rw [B6 hiz];exact .inl rfl
   |const v=>exact .inl rfl
   |global g=>exact .inl rfl
   |func f=>exact .inl rfl
  have hcr:=hp.cr (t2:=s2.den.t) hden;have hdd: ∀i,N<=i->s2.den.t i= .dead:=by
   intro i hi;rcases hden i with h|⟨h,_⟩
   ·exact h
   ·rw [h];exact hp.dd i hi
  have hy2:W8 s2 ty s.r.length (s2.ev y)=some (d,ys,[]):=by rw [hs2,hs2d];exact hy
  rw [<-hσ2]at hcr;obtain⟨⟨Fy,h1,h2,h3⟩,_⟩:=OQ (s:=s2) hcr hdd hy2;exact⟨Fy,h1,fun i k c hi hk hF=>(by obtain⟨j,hj,_⟩:=h2 i k c hi hk hF;cases hj),h3⟩
theorem Xb{s:St}{t:Nat->V}(ht:VLe t s.den.t){ty:Ty}{x:Operand}{d' dx:Nat}{xs:List ty.T}(hxs:Uw ty d' (s.ev x)=some (dx,xs)):
  Sub (Ms.ev ⟨t,s.den.σ⟩ x) (.nd true true ty.w xs.length fun i k=>(tyV ty dx (xs.getD i ty.dflt)).getD k .dead):=by
 have hev: ∀v,s.ev x=some v->v.v s.r≠.dead->Ms.ev ⟨t,s.den.σ⟩ x=v.v s.r:=by
  intro v hv hne;rw [<-A3 hv]at hne⊢;exact(ht.ev (σ:=s.den.σ) x).resolve_right fun e=>hne e.1
 unfold Uw at hxs;split at hxs
 ·rename_i t1 d1 xs1 hx
  split at hxs
  case isFalse=>cases hxs
  rename_i e;subst e;cases hxs;rw [hev _ hx (by intro e;cases e)]
  exact Sub.refl _
 ·rename_i hx
  cases hxs;rw [hev _ hx (by intro e;cases e)]
  exact .inr ⟨rfl,_,_,_,rfl⟩
 ·cases hxs
theorem appO_v{P:Program}{E:Env}(hE:EOK P E){ops:Array Oper}{s:St}{o:Oper}{A:AO}{t:Nat->V}(ht:VLe t s.den.t)(h:appO E ops s o=some A)(hA:A.p):
  ∃ys r,(∀p∈ys,JO ops o p=true)/\XO o.op=true/\LQ P E.h.n s.den.σ o t ys r/\VLe (Uo o.dst r (AV ys t)) (St.den ⟨A5 (Cq A.js s.t) A.d A.y,s.r⟩).t/\
   (∀i,Aq ops.toList i=true->o.dst≠some i->A5 (Cq A.js s.t) A.d A.y i=s.t i):=by
 unfold appO at h;split at h
 case h_2=>cases h
 rename_i ty x y d hop hdst;have hop:=AaQ hop;split at h
 case h_2=>cases h
 rename_i j hj;obtain⟨e,hsl,_⟩:=Dv hE.Θ hj;have hmap:=Pw (own_le ht) [x,y]
 cases hb:(B7 ([x,y].map (HV s))&&(match jsO ([x,y].map (HV s))with
    | []=>false
    |a::l=>(a::l).all (mvB ops o))&&Nat.blt d E.h.n&&Nat.blt 0 j.bytes&&Nat.blt 0 j.ty.w)with
 |false=>rw [hb]at h;cases h
 |true=>
 rw [hb]at h;simp only [cond_true]at h;simp only [bAE]at hb;obtain⟨⟨⟨⟨h1,h2⟩,h3⟩,h4⟩,h5⟩:=hb;have h3:d<E.h.n:=blE h3;have hby:=P5 h4;have hw:=P5 h5
 have hmv: ∀y'∈jsO ([x,y].map (HV s)),mvB ops o y'=true:=by
  intro y' hy;split at h2
  ·cases h2
  ·rename_i a l e;rw [e]at hy;exact aET.1 h2 y' hy
 split at h
 case h_2=>cases h
 rename_i d' ys hys;split at h
 case h_2=>cases h
 rename_i dx xs hxs;cases hdk:dOK j.ty d' dx with
 |false=>rw [hdk]at h;cases h
 |true=>
 rw [hdk]at h;cases h;have hA:xs.length+ys.length<=VX j.bytes:=hA
 have hb:(xs.length+ys.length)*j.bytes<=140737488355328:=by
  rw [Nat.mul_comm];exact(Nat.mul_comm _ _▸(Nat.le_div_iff_mul_le hby).1 hA)
 have h63:xs.length+ys.length<=maxLen:=by
  have:xs.length+ys.length<=(xs.length+ys.length)*j.bytes:=Nat.le_mul_of_pos_right _ hby;simp only [maxLen];omega
 have hx:=Xb ht hxs;have ee:tyV j.ty d'=tyV j.ty dx:=funext fun z=>CQ _ _ _ z (L9 hdk)
 have hread:=NL (N:=E.h.n) (x:=x) ht (op:=o.op) (by rw [hop];simp [Op.operands,Call.operands]) hys
 rw [ee]at hread;have hlq:=WR (P:=P) (N:=E.h.n) (σ:=s.den.σ) (t:=t) hop hdst h3 hsl hw hx (by rw [hmap];exact h1) hread h63 hb
 refine⟨_,_,fun p hp=>?_,by rw [hop];rfl,hlq.sub (fun _ _=>Sub.refl _) (P4 rfl rfl (fun _ _ _=>rfl) (fun _ _ _=>rfl)),?_,fun i hn hd=>?_⟩
 ·rw [Ck hmap]at hp
  obtain⟨y',hy,rfl⟩:=List.mem_map.1 hp;exact hmv y' hy
 ·rw [hdst]
  show VLe (AZ _ d _) (fun i=>(A5 (Cq _ s.t) d _ i).v s.r)
  rw [Ci];exact(AaH ht hmap rfl).upd (.inl rfl)
 ·show A5 (Cq _ s.t) d _ i=_
  unfold A5;rw [B6 fun e=>hd (by rw [hdst,e])]
  exact AaI hmv hn
theorem Ja{g l:List Oper}(h: ∀o∈g,o∈l){i:Nat}(hn:Aq l i=true):Aq g i=true:=by
 unfold Aq at hn⊢;rw [aET]at hn⊢;exact fun o ho=>hn o (h o ho)
theorem Aap{v v':V}(h:le1 v v'):AH v=AH v':=by
 rcases h with e|⟨e1,e2⟩
 ·rw [e]
 ·rw [e2,e1];rfl
theorem Z7{s:St}{x:Operand}(h:Om s x=true):AH (s.den.ev x)=false:=by
 unfold Om at h;split at h
 ·rename_i y hy
  rw [A3 hy];have h5:AH (y.v s.r)=y.own:=Sl.own_v y;rw [h5];simpa using h
 ·cases h
theorem Nk: ∀ {ρ:Asm} {c:Nat} {v:Bool},XU ρ c=some v->∃j,(j,c,v)∈ρ
 | [],_,_,h=>by cases h
 |(i,d,u)::ρ,c,v,h=>by
  unfold XU at h;cases hb:Nat.beq d c with
  |true=>
   rw [hb]at h;cases h;have:=bqE hb;subst this;exact⟨i,List.mem_cons_self ..⟩
  |false=>
   rw [hb]at h;obtain⟨j,hj⟩:=Nk h;exact⟨j,mCM _ hj⟩
theorem Jg: ∀ {ρ:Asm} {j:Nat} {v:Bool},XV ρ j=some v->∃d,(j,d,v)∈ρ
 | [],_,_,h=>by cases h
 |(i,d,u)::ρ,j,v,h=>by
  unfold XV at h;cases hb:Nat.beq i j with
  |true=>
   rw [hb]at h;cases h;have:=bqE hb;subst this;exact⟨d,List.mem_cons_self ..⟩
  |false=>
   rw [hb]at h;obtain⟨d',hd⟩:=Jg h;exact⟨d',mCM _ hd⟩
def D4(ops:Array Oper)(ρ:Asm)(S:Nat->V):Prop:=∀x∈ρ,(ops[x.1]?).bind (·.dst)=some x.2.1/\S x.2.1= .c (.bool x.2.2)
theorem Lz{P:Program}{ops:Array Oper}{ρ:Asm}{s:St}{t:Nat->V}{op:Op}{v:Bool}{K:V->Prop}(ht:VLe t s.den.t)(hρ:D4 ops ρ s.den.t)(h:QU ρ s op=some v)(hK:K (.c (.bool v))):N8 P s.den.σ (Ms.ev ⟨t,s.den.σ⟩) op K:=by
 unfold QU at h;split at h
 case h_2=>cases h
 rename_i c x y;cases hb:(Om s x&&Om s y)with
 |false=>rw [hb]at h;cases h
 |true=>
 rw [hb]at h;rw [bAE]at hb;simp only [cond_true]at h;split at h
 case h_2=>cases h
 rename_i u hu;obtain⟨j,hj⟩:=Nk hu;obtain⟨_,hc⟩:=hρ _ hj;have hc:s.den.t c= .c (.bool u):=hc;have htc:t c= .c (.bool u):=by
  rcases ht c with e|e
  ·rw [e];exact hc
  ·rw [hc]at e;cases e.1
 have ev: ∀x v,s.den.ev x= .c (.bool v)->Ms.ev ⟨t,s.den.σ⟩ x= .c (.bool v):=fun x v hx=>by
  rcases ht.ev (σ:=s.den.σ) x with e|e
  ·rw [e];exact hx
  ·have e1:s.den.ev x= .dead:=e.1
   rw [hx]at e1;cases e1
 have ow: ∀x,Om s x=true->AH (Ms.ev ⟨t,s.den.σ⟩ x)=false:=fun x hx=>(Aap (ht.ev (σ:=s.den.σ) x)).trans (Z7 hx)
 have hv:=valB_v h;show QF (t c) (Ms.ev ⟨t,s.den.σ⟩ x) (Ms.ev ⟨t,s.den.σ⟩ y) K;rw [htc];refine⟨ow x hb.1,ow y hb.2,fun e=>?_,fun e=>?_⟩
 ·subst e
  rw [ev x v hv];exact hK
 ·subst e
  rw [ev y v hv];exact hK
theorem YW{s:St}{d:Nat}(h:isUd (s.t d)=true):s.den.t d=udV:=by
 show(s.t d).v s.r=_;unfold isUd at h;split at h
 ·rename_i e;rw [e];rfl
 ·cases h
theorem ZX{s s':St}{d:Option Nat}{t:Nat->V}(ht:VLe t s.den.t)(h:Hm E.h s d=some s'):s'.r=s.r/\(∀e,d=some e->e<E.h.n)/\(∀i,d≠some i->s'.t i=s.t i/\JQ t d i=t i)/\VLe (JQ t d) s'.den.t/\∀e,d=some e->AH (JQ t d e)=false:=by
 unfold Hm at h;split at h
 ·rename_i d
  cases hb:Nat.blt d E.h.n with
  |false=>rw [hb]at h;cases h
  |true=>
   rw [hb]at h;cases h;refine⟨rfl,fun e he=>by cases he;exact blE hb,fun i hi=>⟨?_,if_neg fun e=>hi (by rw [e])⟩,?_,fun e he=>?_⟩
   ·show A5 s.t d _ i=_
    unfold A5;rw [B6 fun e=>hi (by rw [e])];rfl
   ·show VLe (AZ t d udV) (fun i=>(A5 s.t d (.tup []) i).v s.r)
    rw [Ci];exact ht.upd (.inl rfl)
   ·cases he
    show AH (AZ t d udV d)=false;unfold AZ;rw [if_pos rfl];rfl
 ·cases h
  exact⟨rfl,(fun e he=>by cases he),(fun _ _=>⟨rfl,rfl⟩),ht,fun e he=>by cases he⟩
theorem setB_v{s s':St}{d:Option Nat}{v:Bool}{t:Nat->V}{K:(Nat->V)->Prop}(ht:VLe t s.den.t)(h:setB E.h s d v=some s')(hK: ∀t',s'.r=s.r->(∀i,d≠some i->s'.t i=s.t i/\t' i=t i)->VLe t' s'.den.t->(∀e,d=some e->AH (t' e)=false)->K t'):QK E.h d t K (.c (.bool v)):=by
 unfold setB at h;split at h
 case h_2=>cases h
 rename_i d;cases hb:(Nat.blt d E.h.n&& !E.h.fz.contains d)with
 |false=>rw [hb]at h;cases h
 |true=>
 rw [hb]at h;rw [bAE,Bool.not_eq_true']at hb;cases h;refine⟨blE hb.1,?_⟩;simp only [hb.2,Bool.false_eq_true,if_false];refine hK _ rfl (fun i hi=>⟨?_,if_neg fun e=>hi (by rw [e])⟩) ?_ fun e he=>?_
 ·show A5 s.t d _ i=_
  unfold A5;rw [B6 fun e=>hi (by rw [e])];rfl
 ·show VLe (AZ t d _) (fun i=>(A5 s.t d (.one (.c .bool 0 v)) i).v s.r)
  rw [Ci];exact ht.upd (.inl rfl)
 ·cases he
  unfold AZ;rw [if_pos rfl];rfl
variable (hE:EOK P E)
include hE
theorem stepq{R:Type}{s:St}{o:Oper}{f:Sl->Option St}{K:St->Option R}{z:R}{t:Nat->V}{Kt:(Nat->V)->Prop}(ht:VLe t s.den.t)(h:(Zl E s o.type o.op fun y=>match f y with
   |some s'=>K s'
   |none=>none)=some z) (hf: ∀y s',f y=some s'->s.putX true E.h o.dst y=some s')
  (hK: ∀s' t' y,s'.r=s.r->(∀i,o.dst≠some i->s'.t i=s.t i/\t' i=t i)->VLe t' s'.den.t->f y=some s'->(∀e,o.dst=some e->(y.own&& !fzD E.h o.dst)=false->AH (t' e)=false)->K s'=some z->Kt t'):qop P s.den.σ (Ms.ev ⟨t,s.den.σ⟩) o.op (QK E.h o.dst t Kt):=by
 obtain⟨hl,y,hq,hy⟩:=HI hE h;split at hy
 case h_2=>cases hy
 rename_i s' hs';have hp:=hf y s' hs';obtain⟨hr,e,he,hi⟩:=putH_r hp;refine qop_le ht hl (MS hq fun r0 hr0=>⟨y.v s.r,hr0,putH_v hp ht fun t' ht' h1 h2=>hK s' t' y hr (fun i hn=>⟨hi i fun h=>hn (by rw [he,h]),h1 i hn⟩) ht' hs' h2 hy⟩)
theorem pathg{ops:Array Oper}{z:Bool}{Kt:(Nat->V)->Prop}{rest:List Oper}: ∀ (g:List Oper) (ρ:Asm) (s:St) (t:Nat->V) (K:Asm->St->Option Bool),D4 ops ρ s.den.t->(∀x∈ρ,Aq g x.2.1=true)->VLe t s.den.t->Cj E true ops g ρ s K=some z->
  (∀ρ' s' t',s'.r=s.r->(∀i,Aq g i=true->s'.t i=s.t i/\t' i=t i)->(∀i,Aq g i=false->AH (t' i)=false)->VLe t' s'.den.t->D4 ops ρ' s'.den.t->K ρ' s'=some z->vq P E.h ops s.den.σ rest Kt t')->vq P E.h ops s.den.σ (g++rest) Kt t:=by
 intro g
 induction g with
 |nil=>intro ρ s t K hρ _ ht h hK;exact hK ρ s t rfl (fun _ _=>⟨rfl,rfl⟩) (fun i hi=>by cases hi) ht hρ h
 |cons o g ih=>
  intro ρ s t K hρ hnd ht h hK
  have hc: ∀i,Aq (o::g) i=((match o.dst with
   |some e=>!Nat.beq e i
   |none=>true)&&Aq g i):=fun _=>rfl
  unfold Cj at h;split at h
  case h_1=>cases h
  rename_i j want hgo;split at h
  case h_1=>cases h
  rename_i dj hdj;rw [List.cons_append]
  -- what is behind this operation
  have cont: ∀ (ρ1:Asm) (s1:St) (t1:Nat->V),D4 ops ρ1 s.den.t->(∀x∈ρ1,Aq (o::g) x.2.1=true)->s1.r=s.r->(∀i,o.dst≠some i->s1.t i=s.t i/\t1 i=t i)->VLe t1 s1.den.t->(∀e,o.dst=some e->AH (t1 e)=false)->Cj E true ops g ρ1 s1 K=some z->vq P E.h ops s.den.σ (g++rest) Kt t1:=by
   intro ρ1 s1 t1 hρ1 hnd1 hr hi ht1 ho h1;have hσ:s1.den.σ=s.den.σ:=by show s1.r.map Ae.v=s.r.map Ae.v;rw [hr]
   rw [<-hσ];refine ih ρ1 s1 t1 K (fun x hx=>⟨(hρ1 x hx).1,?_⟩) (fun x hx=>(AU (hnd1 x hx)).2) ht1 h1 fun ρ2 s2 t2 h2 h3 h3' h4 h5 h6=>?_
   ·show(s1.t x.2.1).v s1.r=_
    rw [(hi _ (AU (hnd1 x hx)).1).1,hr];exact(hρ1 x hx).2
   ·rw [hσ]
    refine hK ρ2 s2 t2 (h2.trans hr) (fun i hn=>?_) (fun i hn=>?_) h4 h5 h6
    ·obtain⟨n1,n2⟩:=AU hn
     exact⟨(h3 i n2).1.trans (hi i n1).1,(h3 i n2).2.trans (hi i n1).2⟩
    ·by_cases hg2:Aq g i=true
     ·rw [(h3 i hg2).2]
      rw [hc,hg2,Bool.and_true]at hn;split at hn
      ·rename_i e he
       have:e=i:=bqE (by simpa using hn)
       subst this;exact ho e he
      ·cases hn
     ·exact h3' i (by simpa using hg2)
  have pass: ∀ρ1:Asm,D4 ops ρ1 s.den.t->(∀x∈ρ1,Aq (o::g) x.2.1=true)->onS (Hm E.h s o.dst) (fun s'=>Cj E true ops g ρ1 s' K)=some z->(∀d,o.dst=some d->d<E.h.n)/\vq P E.h ops s.den.σ (g++rest) Kt (JQ t o.dst):=by
   intro ρ1 h1 h2 h3;cases hp:Hm E.h s o.dst with
   |none=>rw [hp]at h3;cases h3
   |some s1=>
    rw [hp]at h3;obtain⟨q1,q2,q3,q4,q5⟩:=ZX ht hp;exact⟨q2,cont ρ1 s1 _ h1 h2 q1 q3 q4 q5 h3⟩
  have step: ∀ρ1:Asm,D4 ops ρ1 s.den.t->(∀x∈ρ1,Aq (o::g) x.2.1=true)->Lj E true ρ1 s o (fun s'=>Cj E true ops g ρ1 s' K)=some z->qop P s.den.σ (Ms.ev ⟨t,s.den.σ⟩) o.op (QK E.h o.dst t (vq P E.h ops s.den.σ (g++rest) Kt)):=by
   intro ρ1 h1 h2 h3;unfold Lj at h3;split at h3
   ·rename_i v hv
    split at h3
    case h_2=>cases h3
    rename_i s1 hs1;exact Lz ht h1 hv ⟨_,Sub.refl _,setB_v ht hs1 fun t' q1 q2 q3 q4=>cont ρ1 s1 t' h1 h2 q1 q2 q3 q4 h3⟩
   ·refine stepq hE (f:=fun y=>bif y.own&& !fzD E.h o.dst then none else s.putX true E.h o.dst y) (K:=fun s'=>Cj E true ops g ρ1 s' K) ht h3 (fun y s' hy=>?_) fun s' t' y hr hi ht' hfy ho hy=>?_
    ·cases hyo:y.own&& !fzD E.h o.dst with
     |true=>rw [hyo]at hy;cases hy
     |false=>rw [hyo]at hy;exact hy
    have hyo:(y.own&& !fzD E.h o.dst)=false:=by
     cases hyo:y.own&& !fzD E.h o.dst with
     |true=>rw [hyo]at hfy;cases hfy
     |false=>rfl
    exact cont ρ1 s' t' h1 h2 hr hi ht' (fun e he=>ho e he hyo) hy
  -- what the guard yields
  have run: ∀v:Bool,s.den.t dj= .c (.bool v)->gv t ops j= .c (.bool v):=fun v hv=>by
   unfold gv;rw [hdj];rcases ht dj with e|e
   ·rw [<-hv];exact e
   ·rw [hv]at e;cases e.1
  unfold vq;rw [hgo]
  have known: ∀ (ρ1:Asm) (v:Bool),s.den.t dj= .c (.bool v)->D4 ops ρ1 s.den.t->(∀x∈ρ1,Aq (o::g) x.2.1=true)->(v=want->Lj E true ρ1 s o (fun s'=>Cj E true ops g ρ1 s' K)=some z)->(v=(!want)->onS (Hm E.h s o.dst) (fun s'=>Cj E true ops g ρ1 s' K)=some z)->
    (match gv t ops j with
     | .c (.bool b)=>(b=want->qop P s.den.σ (Ms.ev ⟨t,s.den.σ⟩) o.op (QK E.h o.dst t (vq P E.h ops s.den.σ (g++rest) Kt)))/\(b=(!want)->(∀d,o.dst=some d->d<E.h.n)/\vq P E.h ops s.den.σ (g++rest) Kt (JQ t o.dst))
     |v=>v=udV/\(∀d,o.dst=some d->d<E.h.n)/\vq P E.h ops s.den.σ (g++rest) Kt (JQ t o.dst)):=by
   intro ρ1 v hv h1 h2 h3 h4;rw [run v hv];exact⟨fun e=>step ρ1 h1 h2 (h3 e),fun e=>pass ρ1 h1 h2 (h4 e)⟩
  cases hu:isUd (s.t dj)with
  |true=>
   rw [hu]at h;have hgv:gv t ops j=udV:=by
    unfold gv;rw [hdj];have hv:=YW hu;rcases ht dj with e|e
    ·rw [<-hv];exact e
    ·rw [hv]at e;cases e.1
   obtain⟨p1,p2⟩:=pass ρ hρ hnd h
   have hm:(match gv t ops j with
     | .c (.bool b)=>(b=want->qop P s.den.σ (Ms.ev ⟨t,s.den.σ⟩) o.op (QK E.h o.dst t (vq P E.h ops s.den.σ (g++rest) Kt)))/\(b=(!want)->(∀d,o.dst=some d->d<E.h.n)/\vq P E.h ops s.den.σ (g++rest) Kt (JQ t o.dst))
     |v=>v=udV/\(∀d,o.dst=some d->d<E.h.n)/\vq P E.h ops s.den.σ (g++rest) Kt (JQ t o.dst)):=by
    rw [hgv];exact⟨rfl,p1,p2⟩
   exact hm
  |false=>
   rw [hu]at h;simp only [cond_false]at h;split at h
   ·rename_i v hv
    obtain⟨d',hm⟩:=Jg hv;obtain⟨e1,e2⟩:=hρ _ hm;have e1:some dj=some d':=hdj.symm.trans e1;cases e1;refine known ρ v e2 hρ hnd (fun e=>?_) fun e=>?_
    ·subst e;simpa using h
    ·subst e;cases want<;>exact h
   ·split at h
    case h_2=>cases h
    rename_i dd b hb;have hbv:s.den.t dj= .c (.bool b):=by show(s.t dj).v s.r=_;rw [hb];rfl
    cases hn:Aq (o::g) dj with
    |false=>rw [hn]at h;cases h
    |true=>
    rw [hn]at h;simp only [cond_true]at h
    have hρ1:D4 ops ((j,dj,b)::ρ) s.den.t:=fun x hx=>by
     rcases List.mem_cons.1 hx with rfl|hx
     ·exact⟨hdj,hbv⟩
     ·exact hρ x hx
    have hnd1: ∀x∈(j,dj,b)::ρ,Aq (o::g) x.2.1=true:=fun x hx=>by
     rcases List.mem_cons.1 hx with rfl|hx
     ·exact hn
     ·exact hnd x hx
    refine known ((j,dj,b)::ρ) b hbv hρ1 hnd1 (fun e=>?_) fun e=>?_
    ·subst e;cases b<;>exact h
    ·subst e;cases want<;>exact h
theorem Xh{R:Type}{ops:Array Oper}{K:St->Option R}{z:R}{Kt:(Nat->V)->Prop}: ∀ (l:List Seg) (s:St) (t:Nat->V),(∀o∈l.flatMap Seg.ops,o∈ops.toList)->VLe t s.den.t->
  WZ E true ops l s K=some z->(∀s' t',s'.r=s.r->(∀i,Aq ops.toList i=true->yB E ops.toList i=false->s'.t i=s.t i)->VLe t' s'.den.t->K s'=some z->Kt t')->vq P E.h ops s.den.σ (l.flatMap Seg.ops) Kt t:=by
 intro l
 induction l with
 |nil=>intro s t _ ht h hK;exact hK s t rfl (fun _ _ _=>rfl) ht h
 |cons sg l ih=>
  intro s t hsub ht h hK;rw [List.flatMap_cons]at hsub;have hsub1: ∀o∈sg.ops,o∈ops.toList:=fun o ho=>hsub o (List.mem_append_left _ ho)
  have hsub2: ∀o∈l.flatMap Seg.ops,o∈ops.toList:=fun o ho=>hsub o (List.mem_append_right _ ho)
  cases sg with
  |one o=>
   unfold WZ at h;split at h
   case h_2=>cases h
   rename_i hg;rw [List.flatMap_cons];show vq P E.h ops s.den.σ (o::l.flatMap Seg.ops) Kt t;unfold vq;rw [hg];have nd: ∀i,Aq ops.toList i=true->o.dst≠some i:=fun i hn=>(AU (o:=o) (g:=[]) (Ja (g:=[o]) (fun o' ho'=>hsub1 o' ho') hn)).1
   split at h
   ·rename_i y u d z' hmv
    obtain⟨hdst,hdn,hfz,ys,hys,hmq,hvl,hed⟩:=mvF_v ht hmv;refine .inr (.inl ⟨ys,d,z'.v s.r,hdst,hdn,hfz,hys,hmq,?_⟩);refine ih ⟨A5 (A5 s.t y u) d z',s.r⟩ _ hsub2 hvl h fun s2 t2 h2 h2' h3 h4=>hK s2 t2 h2 (fun i hn hx=>?_) h3 h4
    rw [h2' i hn hx];have hid:i≠d:=fun e=>nd i hn (by rw [hdst,e])
    have hiy:i≠y:=by
     rintro rfl
     rcases hed with⟨e,he,hb,hed⟩|⟨hx1,hx2⟩
     rotate_left
     ·have:yB E ops.toList i=true:=by
       unfold yB;rw [hx1,Bool.true_and];exact List.any_eq_true.2 ⟨o,hsub1 o (List.mem_singleton.2 rfl),hx2⟩
      rw [hx]at this;cases this
     unfold AQ at hed;rw [Option.bind_eq_some_iff]at hed;obtain⟨ok,hok,hokd⟩:=hed;have hmem:ok∈ops.toList:=by
      rw [<-Array.getElem?_toList]at hok;exact List.mem_of_getElem? hok
     exact(AU (o:=ok) (g:=[]) (Ja (g:=[ok]) (fun o' ho'=>by rw [List.mem_singleton.1 ho'];exact hmem) hn)).1 hokd
    show A5 (A5 s.t y u) d z' i=s.t i;unfold A5;rw [B6 hid];show(bif Nat.beq i y then _ else s.t i)=s.t i;rw [B6 hiy];rfl
   split at h
   ·rename_i js pu ds hlq
    obtain⟨ys,r,hys,hne,hq,hvl,hnw⟩:=lqF_v hE ht hlq;refine .inr (.inr ⟨ys,r,hys,hne,hq,?_⟩);refine ih ⟨YC ds (YC pu (Cq js s.t)),s.r⟩ _ hsub2 hvl h fun s2 t2 h2 h2' h3 h4=>hK s2 t2 h2 (fun i hn hx=>?_) h3 h4
    rw [h2' i hn hx];exact hnw i hn (nd i hn)
   split at h
   ·rename_i A ha
    have h: @ite _ A.p A.dec (WZ E true ops l ⟨A5 (Cq A.js s.t) A.d A.y,s.r⟩ K) none=some z:=h;by_cases hA:A.p
    case neg=>rw [if_neg hA]at h;cases h
    rw [if_pos hA]at h;obtain⟨ys,r,hys,hne,hq,hvl,hnw⟩:=appO_v hE ht ha hA;refine .inr (.inr ⟨ys,r,hys,hne,hq,?_⟩);refine ih ⟨A5 (Cq A.js s.t) A.d A.y,s.r⟩ _ hsub2 hvl h fun s2 t2 h2 h2' h3 h4=>hK s2 t2 h2 (fun i hn hx=>?_) h3 h4
    rw [h2' i hn hx];exact hnw i hn (nd i hn)
   refine .inl (stepq hE (f:=fun y=>s.putX true E.h o.dst y) ht h (fun _ _ h=>h) fun s' t' _ hr hi ht' _ _ hy=>?_)
   have hσ:s'.den.σ=s.den.σ:=by show s'.r.map Ae.v=s.r.map Ae.v;rw [hr]
   rw [<-hσ]
   exact ih s' t' hsub2 ht' hy fun s2 t2 h2 h2' h3 h4=>hK s2 t2 (h2.trans hr) (fun i hn hx=>by
    rw [h2' i hn hx,(hi i (nd i hn)).1]) h3 h4
  |grp g pk=>
   unfold WZ at h;split at h
   case h_2=>cases h
   rename_i d hpd;have hpd2:pk.dst=some d/\pk.guard=none/\d<E.h.n/\E.h.fz.contains d=false:=by
    unfold XF at hpd;split at hpd
    case h_2=>cases hpd
    rename_i d' e1 e2;cases hb:(Nat.blt d' E.h.n&& !E.h.fz.contains d')with
    |false=>rw [hb]at hpd;cases hpd
    |true=>
     rw [hb]at hpd;cases hpd;rw [bAE,Bool.not_eq_true']at hb;exact⟨e1,e2,blE hb.1,hb.2⟩
   obtain⟨e1,e2,h3,h4⟩:=hpd2;cases hv:grpB E true ops s g pk with
   |none=>rw [hv]at h;cases h
   |some v=>
    rw [hv]at h;simp only [Option.bind_some]at h;rw [List.flatMap_cons];show vq P E.h ops s.den.σ ((g++ [pk])++l.flatMap Seg.ops) Kt t;rw [List.append_assoc];refine pathg hE g [] s t _ (fun x hx=>by cases hx) (fun x hx=>by cases hx) ht hv fun ρ' s' t' hr hi ho ht' hρ' hs'=>?_
    rw [hr,Nat.beq_refl]at hs';have hs':QU ρ' s' pk.op=some v:=hs';have hσ:s'.den.σ=s.den.σ:=by show s'.r.map Ae.v=s.r.map Ae.v;rw [hr]
    show vq P E.h ops s.den.σ (pk::l.flatMap Seg.ops) Kt t';unfold vq;rw [e2];left;rw [<-hσ];refine Lz ht' hρ' hs' ⟨_,Sub.refl _,?_⟩;rw [e1,hσ];refine⟨h3,?_⟩;simp only [h4,Bool.false_eq_true,if_false]
    refine ih ⟨A5 (DV g s.t) d (.one (.c .bool 0 v)),s.r⟩ (AZ t' d (.c (.bool v))) hsub2 ?_ h fun s2 t2 h2 h2' h3 h4=>hK s2 t2 h2 (fun i hn0 hx0=>by
     have hn:Aq ((g++ [pk])++l.flatMap Seg.ops) i=true:=Ja hsub hn0;unfold Aq at hn;rw [List.all_append,List.all_append,bAE,bAE]at hn;rw [h2' i hn0 hx0];show A5 (DV g s.t) d (.one (.c .bool 0 v)) i=s.t i;have hid:i≠d:=by
      rintro rfl
      have:=hn.1.2;simp only [List.all_cons,List.all_nil,Bool.and_true,e1,Nat.beq_refl,Bool.not_true]at this;cases this
     unfold A5;rw [B6 hid];show DV g s.t i=s.t i;rw [H0,if_pos (show Aq g i=true from hn.1.1)]) h3 h4
    show VLe _ (fun i=>(A5 (DV g s.t) d (.one (.c .bool 0 v)) i).v s.r)
    rw [Ci];refine VLe.upd ?_ (.inl rfl);intro i;simp only [H0];by_cases hn:Aq g i=true
    ·rw [if_pos hn,(hi i hn).2];exact ht i
    ·rw [if_neg hn];exact .inr ⟨rfl,ho i (by simpa using hn)⟩
end head
end Go.Ve

