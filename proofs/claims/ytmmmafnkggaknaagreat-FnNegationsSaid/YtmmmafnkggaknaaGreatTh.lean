/- The typed machine: lists of quiet operations, guards; the head of a region that draws its order. -/
import Derived.Test.YtmmmafnkggaknaaGreatTg
import Derived.Test.YtmmmafnkggaknaaGreatTd
set_option linter.all false
namespace Go.Ve
variable{hh:Cs}{Us:List EnU}{js:List Nat}{g:List Oper}{d i k:Nat}{t t':Nat->V}{op:Op}{o:Oper}{x:Operand}{P:Program}{y:Sl}{s s':St}{ty:Ty}{R:Type}{v v':V}{K:V->Prop}
structure Env where
 Θ:Tab
 Γ:List En
 W:List EnW
 N:List EnN
 h:Cs
 U:List EnU
variable{E:Env}
def Ij:Op->Option (FuncId×Array Operand)
 |.call c=>match c.callee with
  |.value (.func f)=>some (f,c.args)
  |_=>none
 |_=>none
def Cl.live:Cl->Bool
 |.dead=>false
 |.c (.osl _) _ _=>false
 |.c t _ _=>t.one
 |_=>true
def ZR:Option Sl->Bool
 |some (.one y)=>y.live
 |some _=>true
 |none=>false
theorem live_v(h:ZR (s.ev x)=true):s.den.ev x≠.dead:=by
 unfold ZR at h;split at h
 .rename_i y e
  rw[Bh e];cases y with
  |c t d x=>
   cases t<;>first|(intro u;trivial)|rfl
  |dead=>cases h
  |_=>intro u;trivial
 .rename_i y B e
  rw[Bh e];cases y with
  |one c=>grind
  |_=>intro u;trivial
 grind
def St.liveX(s:St):Operand->Bool
 |.func _=>true
 |x=>ZR (s.ev x)
theorem VD(h:s.liveX x=true):s.den.ev x≠.dead:=by
 cases x with
 |func f=>
  intro e;have e:fnV f=.dead:=e;unfold fnV at e
  grind
 |_=>exact live_v h
def YX{R:Type}(E:Env)(s:St)(ty:TypeId)(op:Op)(K:Sl->Option R):Option R:=bif op.operands.toList.all s.liveX then(match Ij op with
 |some (f,xs)=>match I8 E.Γ s f (xs.toList.map s.ev)with
  |some a=>ID a.o λz=>K (a.y z)
  |none=>match UJ E.N s f (xs.toList.map s.ev)with
   |some a=>ID a.o λz=>OF z.1 (K (a.y true z.2)) (K (a.y false z.2))
   |none=>none
 |none=>match cloF s op with
  |some (g,ys)=>match I8 E.Γ s g (ys.map some)with
   |some a=>ID a.o λz=>K (a.y z)
   |none=>none
  |none=>match cloI E.Θ s op with
  |some (g,ys)=>match I8 E.Γ s g (ys.map some)with
   |some a=>ID a.o λz=>K (a.y z)
   |none=>none
  |none=>match tq E.Θ s ty op with
   |some (.ok y)=>K y
   |some (.cnd p dec y)=>oif p dec (K y)
   |none=>none)else none
structure EOK(P:Program)(E:Env):Prop where
 Θ:E.Θ.OK P
 Γ:He P E.Γ
 W:∀e∈E.W,e.OK P
 N:∀e∈E.N,e.OK P
 U:∀e∈E.U,e.OK P
theorem HU(hE:EOK P E){ty:TypeId}{K:Sl->Option R}{z:R}(h:YX E s ty op K=some z):(∀x∈op.operands,s.den.ev x≠.dead)/\∃y,QS P s op y/\K y=some z:=by
 unfold YX at h;obtain⟨hl,h⟩:=Bb h;refine⟨λx hx=>VD (aET.1 hl x (by simpa using hx)),?_⟩
 split at h
 .rename_i f xs B
  split at h
  case h_2=>
   split at h
   case h_2=>cases h
   rename_i a J;cases e:a.o with
   |none=>rw[e]at h;cases h
   |some u=>
    rw[e]at h;obtain⟨b,u⟩:=u;refine⟨a.y b u,?_,by cases b<;>exact h⟩
    unfold Ij at B;split at B
    case h_2=>cases B
    rename_i c;obtain⟨callee,args,ats⟩:=c;split at B
    case h_2=>cases B
    rename_i f' U;have U:callee=.value (.func f'):=U;subst U;cases B;exact Mm hE.N J e
  rename_i a J;cases e:a.o with
  |none=>rw[e]at h;cases h
  |some u=>
   rw[e]at h;refine⟨a.y u,?_,h⟩;unfold Ij at B;split at B
   case h_2=>cases B
   rename_i c;obtain⟨callee,args,ats⟩:=c;split at B
   case h_2=>cases B
   rename_i f' U;have U:callee=.value (.func f'):=U;subst U;cases B;exact NW hE.Γ J e
 .split at h
  .rename_i g ys Z
   split at h
   case h_2=>cases h
   rename_i a J;cases e:a.o with
   |none=>rw[e]at h;cases h
   |some u=>
    rw[e]at h;exact⟨a.y u,QR hE.Γ Z J e,h⟩
  split at h
  .rename_i g ys Z
   split at h
   case h_2=>cases h
   rename_i a J;cases e:a.o with
   |none=>rw[e]at h;cases h
   |some u=>
    rw[e]at h;exact⟨a.y u,QQ hE.Θ hE.Γ Z J e,h⟩
  split at h
  .rename_i y J
   exact⟨y,ON hE.Θ J trivial,h⟩
  .rename_i p dec y J
   have h: @ite _ p dec (K y) none=some z:=h;by_cases W:p
   .rw[if_pos W]at h
    exact⟨y,ON hE.Θ J W,h⟩
   .rw[if_neg W]at h;cases h
  .cases h
def St.putH(h:Cs)(s:St)(d:Option Nat)(y:Sl):Option St:=match d with
 |none=>none
 |some d=>bif Nat.blt d h.n then(bif h.fz.contains d then(match y.frz with
   |some e=>some ⟨AJ s.t d e,s.r⟩
   |none=>none)else some ⟨AJ s.t d y,s.r⟩)else none
def St.putX(hd:Bool)(h:Cs)(s:St)(d:Option Nat)(y:Sl):Option St:=bif hd then s.putH h d y else s.put h d y
inductive Seg where
 |one (o:Oper)
 |grp (g:List Oper) (pk:Oper)
def Seg.ops:Seg->List Oper
 |.one o=>[o]
 |.grp g pk=>g++[pk]
def PS:List Oper->List Oper×List Oper
 |[]=>([],[])
 |o::l=>bif o.guard.isSome then(o::(PS l).1,(PS l).2)else([],o::l)
def WB:Nat->List Oper->List Seg
 |0,l=>l.map .one
 |_+1,[]=>[]
 |n+1,o::l=>match o.guard with
  |none=>.one o::WB n l
  |some _=>match PS l with
   |(g,pk::rest)=>.grp (o::g) pk::WB n rest
   |(_,[])=>(o::l).map .one
def Mf:∀l,(PS l).1++(PS l).2=l
 |[]=>rfl
 |o::l=>by
  unfold PS;cases e:o.guard.isSome with
  |true=>simp[Mf l]
  |false=>rfl
def Lr:∀l:List Oper,(l.map Seg.one).flatMap Seg.ops=l
 |[]=>rfl
 |o::l=>by rw[List.map_cons,List.flatMap_cons,Lr l];rfl
def Ck:∀(n:Nat) (l:List Oper),(WB n l).flatMap Seg.ops=l
 |0,l=>Lr l
 |n+1,[]=>rfl
 |n+1,o::l=>by
  unfold WB;split
  .rw[List.flatMap_cons,Ck n l];rfl
  .split
   .rename_i g pk e u
    rw[List.flatMap_cons,Ck n e];have:=Mf l;rw[u]at this;rw[<-this];simp[Seg.ops]
   .exact Lr _
def valB(s:St)(x:Operand):Option Bool:=match s.ev x with
 |some (.one (.c .bool _ b))=>some b
 |_=>none
theorem valB_v{b:Bool}(h:valB s x=some b):s.den.ev x=.c (.bool b):=by
 unfold valB at h;split at h
 .rename_i d e hs
  cases h;rw[Bh hs];rfl
 grind
def CY:List Oper->(Nat->Sl)->Nat->Sl
 |[],t=>t
 |o::l,t=>match o.dst with
  |some d=>CY l (AJ t d (.one .dead))
  |none=>CY l t
def Av(g:List Oper)(d:Nat):Bool:=g.all λo=>match o.dst with
 |some e=>!Nat.beq e d
 |none=>true
abbrev Asm:=List (Nat×Nat×Bool)
def VB:Asm->Nat->Option Bool
 |[],_=>none
 |(i,_,v)::ρ,j=>bif Nat.beq i j then some v else VB ρ j
def Xr:Asm->Nat->Option Bool
 |[],_=>none
 |(_,d,v)::ρ,c=>bif Nat.beq d c then some v else Xr ρ c
def Z1:Sl->Bool
 |.tup []=>true
 |_=>false
def Qu(s:St)(x:Operand):Bool:=match s.ev x with
 |some y=>!y.own
 |none=>false
def MZ(ρ:Asm)(s:St):Op->Option Bool
 |.pick (.tmp c) x y=>bif Qu s x&&Qu s y then(match Xr ρ c with
  |some v=>valB s (bif v then x else y)
  |none=>none)else none
 |_=>none
def AaA(h:Cs)(s:St)(d:Option Nat)(v:Bool):Option St:=match d with
 |some d=>bif Nat.blt d h.n&& !h.fz.contains d then some ⟨AJ s.t d (.one (.c .bool 0 v)),s.r⟩else none
 |none=>none
def CX(h:Cs)(s:St)(d:Option Nat):Option St:=match d with
 |some d=>bif Nat.blt d h.n then some ⟨AJ s.t d (.tup []),s.r⟩else none
 |none=>some s
def fzD(h:Cs):Option Nat->Bool
 |some d=>h.fz.contains d
 |none=>false
def La(E:Env)(hd:Bool)(ρ:Asm)(s:St)(o:Oper)(K:St->Option Bool):Option Bool:=match MZ ρ s o.op with
 |some v=>match AaA E.h s o.dst v with
  |some s'=>K s'
  |none=>none
 |none=>YX E s o.type o.op λy=>match(bif y.own&& !fzD E.h o.dst then none else s.putX hd E.h o.dst y)with
  |some s'=>K s'
  |none=>none
def onS(o:Option St)(K:St->Option Bool):Option Bool:=match o with
 |some s=>K s
 |none=>none
def Cz(E:Env)(hd:Bool)(ops:Array Oper):List Oper->Asm->St->(Asm->St->Option Bool)->Option Bool
 |[],ρ,s,K=>K ρ s
 |o::l,ρ,s,K=>match o.guard with
  |none=>none
  |some (j,want)=>match(ops[j]?).bind (·.dst)with
   |none=>none
   |some e=>bif Z1 (s.t e)then onS (CX E.h s o.dst) (λs'=>Cz E hd ops l ρ s' K)else match VB ρ j with
    |some v=>bif v==want then La E hd ρ s o (λs'=>Cz E hd ops l ρ s' K)else onS (CX E.h s o.dst) (λs'=>Cz E hd ops l ρ s' K)
    |none=>match s.t e with
     |.one (.c .bool _ b)=>bif Av (o::l) e then
      OF b (bif want then La E hd ((j,e,true)::ρ) s o (λs'=>Cz E hd ops l ((j,e,true)::ρ) s' K)else onS (CX E.h s o.dst) (λs'=>Cz E hd ops l ((j,e,true)::ρ) s' K))
       (bif want then onS (CX E.h s o.dst) (λs'=>Cz E hd ops l ((j,e,false)::ρ) s' K)else La E hd ((j,e,false)::ρ) s o (λs'=>Cz E hd ops l ((j,e,false)::ρ) s' K))else none
     |_=>none
def grpB(E:Env)(hd:Bool)(ops:Array Oper)(s:St)(g:List Oper)(pk:Oper):Option Bool:=
 Cz E hd ops g [] s λρ s'=>bif Nat.beq s'.r.length s.r.length then MZ ρ s' pk.op else none
def Xj(h:Cs)(pk:Oper):Option Nat:=match pk.dst,pk.guard with
 |some d,none=>bif Nat.blt d h.n&& !h.fz.contains d then some d else none
 |_,_=>none
def partS:Bool×List Cl->Option Sl
 |(true,m)=>some (.agg m)
 |(false,y::_)=>some (.one y)
 |(false,[])=>none
def hdS:Sl->Sl
 |.one (.c (.sl _) (_+1) xs)=>.one (.c (.sl .unit) 0 (Yf (Ib xs) ()))
 |.one (.c (.osl _) (_+1) x)=>match x with
  |some xs=>.one (.c (.sl .unit) 0 (Yf (Ib xs) ()))
  |none=>.one .dead
 |_=>.one .dead
theorem hdS_v(r:List Af)(y:Sl):hdV (y.v r)=(hdS y).v r:=by
 cases y with
 |one c=>
  cases c with
  |c t d x=>
   cases t with
   |sl t=>
    cases d with
    |zero=>rfl
    |succ d=>
     show V.nd true false 0 x.length (λ_ _=>.dead)=V.nd true false 0 (List.replicate x.length ()).length λi k=>([].getD k .dead)
     simp
   |ptr t=>rfl
   |osl t=>
    cases d with
    |zero=>cases x<;>rfl
    |succ d=>
     cases x with
     |none=>rfl
     |some x=>
      show V.nd true false 0 x.length (λ_ _=>.dead)=V.nd true false 0 (List.replicate x.length ()).length λi k=>([].getD k .dead)
      simp
   |_=>rfl
  |_=>rfl
 |_=>rfl
def dX(E:Env)(y:Nat):Bool:=E.h.fz.contains (y+1000000)
def Jt(o:Oper)(y:Nat):Bool:=match o.op with
 |.assign (.tmp z)=>Nat.beq z y
 |.move (.tmp z)=>Nat.beq z y
 |_=>false
def stB(o:Oper)(y:Nat):Bool:=match o.op with
 |.store _ (.tmp z) _=>Nat.beq z y
 |_=>false
def alS(h:Cs)(ops:Array Oper)(o:Oper)(z:Nat):Option Nat:=o.after.toList.findSome? λe=>bif Region.binds .any e then(match ops[e.on]? with
 |some c=>bif alM h ops c then(match c.op,c.dst with
  |.move (.tmp y),some z'=>bif Nat.beq z' z then some y else none
  |_,_=>none)else none
 |none=>none)else none
theorem alS_v{h:Cs}{ops:Array Oper}{z y:Nat}(hs:alS h ops o z=some y):AlP h ops o z y:=by
 obtain⟨e,he,u⟩:=List.exists_of_findSome?_eq_some hs;cases U:Region.binds .any e with
 |false=>grind
 |true=>
  rw[U]at u;split at u
  case h_2=>grind
  rename_i c hc;cases B:alM h ops c with
  |false=>grind
  |true=>
   rw[B]at u;split at u
   case h_2=>cases u
   rename_i y' W J hd;cases Z:Nat.beq W z with
   |false=>grind
   |true=>
    rw[Z]at u;cases u;exact⟨e,by grind,U,c,hc,B,J,by simp_all⟩
def UR(h:Cs)(ops:Array Oper)(o:Oper)(z:Nat):Nat:=match alS h ops o z with
 |some y=>y
 |none=>z
def okU(h:Cs)(e:Nat->Bool)(ops:Array Oper)(o:Oper)(z:Nat):Bool:=match alS h ops o z with
 |some y=>PU h ops o (y,.put .dead)
 |none=>mvB ops o z||(e z&&(mvR ops o z||mvC ops o z))
def ucB(E:Env)(ops:Array Oper)(o:Oper)(y:Nat):Bool:=match Ij o.op with
 |some (f,xs)=>match Ju E.U f with
  |some e=>match xs.toList[e.S.k]? with
   |some (.tmp z)=>match alS E.h ops o z with
    |some u=>Nat.beq u y
    |none=>dX E z&&Nat.beq z y
   |_=>false
  |none=>false
 |none=>false
def yB(E:Env)(ops:Array Oper)(y:Nat):Bool:=ops.toList.any λo=>(dX E y&&(Jt o y||stB o y))||ucB E ops o y
def mvF(E:Env)(ops:Array Oper)(s:St)(o:Oper):Option (Nat×Sl×Nat×Sl):=match o.op,o.dst with
 |.assign (.tmp y),some d=>bif(s.t y).own&&Nat.blt d E.h.n&& !E.h.fz.contains d&&(mvB ops o y||(dX E y&&mvR ops o y))then some (y,hdS (s.t y),d,s.t y)else none
 |.move (.tmp y),some d=>bif(s.t y).own&&Nat.blt d E.h.n&& !E.h.fz.contains d&&(mvB ops o y||(dX E y&&mvR ops o y))then some (y,hdS (s.t y),d,s.t y)else none
 |.extract (.tmp y) c,some d=>match s.t y with
  |.tup l=>match l[c]? with
   |some q=>match partS q with
    |some z=>bif z.own&&Nat.blt d E.h.n&& !E.h.fz.contains d&&exB ops o y c then some (y,.tup (l.set c (false,[])),d,z)else none
    |none=>none
   |none=>none
  |_=>none
 |_,_=>none
def notT(p:Nat):Operand->Bool
 |.tmp y=>!Nat.beq y p
 |_=>true
def newC:Sl->Option (List Cl)
 |.new lp=>some lp
 |.one (.c (.ptr u) (d+1) z)=>some (AB u d z)
 |_=>none
theorem newC_v{lp:List Cl}(h:newC y=some lp)(r:List Af):y.v r=Bj true (lp.map Cl.v0):=by
 unfold newC at h;split at h
 .cases h;rfl
 .rename_i u d z
  cases h;show Bj (decide (0<d+1)) (tyV u (d+1-1) z)=_;rw[BL,dT (Nat.succ_pos _)];rfl
 .cases h
def lqF(E:Env)(ops:Array Oper)(s:St)(o:Oper):Option (List Nat×Option (Nat×Sl)×Option (Nat×Sl)):=match o.op,o.dst with
 |.build t ps,some d=>bif CU ((ps.toList.map (·.2)).map (Ks s))&&(match jsO ((ps.toList.map (·.2)).map (Ks s))with
   |[]=>false
   |a::l=>(a::l).all (mvB ops o))&&Nat.blt d E.h.n then(match E.Θ.look t with
    |some i=>bif i.agg then(match Mj (λk=>i.places[k]?) (HS i.ty) (ps.toList.map λp=>(p.1,s.ev p.2))with
     |some l=>some (jsO ((ps.toList.map (·.2)).map (Ks s)),none,some (d,.agg (bif E.h.fz.contains (2000000+d)then Qs (AB i.ty 0 i.ty.dflt) l else l)))
     |none=>none)else none
    |none=>none)else none
 |.buildSlice t n ps,some d=>bif CU ((ps.toList.map (·.2)).map (Ks s))&&(match jsO ((ps.toList.map (·.2)).map (Ks s))with
   |[]=>false
   |a::l=>(a::l).all (mvB ops o))&&Nat.blt d E.h.n then(match((E.Θ.look t).bind (·.elem)).bind E.Θ.look with
    |some j=>bif Nat.blt 0 j.ty.w&&Nat.ble (n*j.ty.w) 16777216 then(match Mj (λi=>some (i*j.ty.w,j.ty.w)) (Zu n (HS j.ty)) (ps.toList.map λp=>(p.1,s.ev p.2))with
     |some l=>bif l.all Cl.keep then(match M2 j.ty j.sd n (l.map (fit j.sd))with
      |some xs=>some (jsO ((ps.toList.map (·.2)).map (Ks s)),none,some (d,.one (.c (.sl j.ty) (j.sd+1) xs)))
      |none=>none)else none
     |none=>none)else none
    |none=>none)else none
 |.store t (.tmp p) x,none=>match newC (s.t p),(s.ev x).bind Sl.cellsO,E.Θ.look t with
  |some lp,some l,some i=>bif(mvB ops o p||(dX E p&&mvR ops o p))&&Nat.blt p E.h.n&&Nat.beq lp.length i.ty.w&&Nat.beq l.length i.ty.w&&l.all Cl.keep&&(jsO ([x].map (Ks s))).all (mvB ops o)&&notT p x then some (jsO ([x].map (Ks s)),some (p,.new (Qs lp l)),none)else none
  |_,_,_=>none
 |_,_=>none
def Wl:Op->Option (TypeId×Operand×Operand)
 |.call c=>match c.callee,c.args.toList,c.argTypes.toList with
  |.builtin .append,[x,y],[t,t']=>bif Nat.beq t t' then some (t,x,y)else none
  |_,_,_=>none
 |_=>none
theorem list2{α:Type}{xs:Array α}{x y:α}(h:xs.toList=[x,y]):xs= #[x,y]:=by grind
theorem Aat{t:TypeId}{y:Operand}(h:Wl op=some (t,x,y)):op=.call ⟨.builtin .append,#[x,y],#[t,t]⟩:=by
 unfold Wl at h;split at h
 case h_2=>grind
 rename_i c;obtain⟨callee,args,J⟩:=c;simp at h;split at h
 case h_2=>grind
 rename_i W U t1 t2 B e;cases u:Nat.beq t1 t2 with
 |false=>grind
 |true=>
  rw[u]at h;cases h;have:=bqE u;subst this;rw[list2 B,list2 e]
def Ub(t:Ty)(e:Nat):Option Sl->Option (Nat×List t.T)
 |some (.one (.c (.sl t') (d+1) xs))=>if h:t'=t then some (d,h▸xs)else none
 |some (.one .nil)=>some (e,[])
 |_=>none
def Ua(s:St)(t:Ty):Option Sl->Option (Nat×List t.T)
 |some (.one (.c (.sl t') (d+1) ys))=>if h:t'=t then(bif t.noO then some (d,h▸ys)else none)else none
 |y=>match QX s t s.r.length y with
  |some (d,ys,[])=>some (d,ys)
  |_=>none
structure AO where
 p:Prop
 dec:Decidable p
 js:List Nat
 d:Nat
 y:Sl
def le1(v v':V):Prop:=v=v'\/(v'=.dead/\AL v=false)
def XI(y:Sl):Sl:=match y.frz with
 |some z=>z
 |none=>.one .dead
theorem Aae(y:Sl)(r:List Af):le1 (Go.Ve.frz (y.v r)) ((XI y).v r):=by
 have u:∀v,AL (Go.Ve.frz v)=false:=by
  intro v
  induction v with
  |many t n f J=>show((List.range n).any λk=>AL (Go.Ve.frz (f k)))=false;grind
  |nd=>rfl
  |_=>rfl
 unfold XI;cases e:y.frz with
 |none=>exact .inr ⟨rfl,u _⟩
 |some B=>exact .inl (Sl.frz_v e)
def appO(E:Env)(ops:Array Oper)(s:St)(o:Oper):Option AO:=match Wl o.op,o.dst with
 |some (t,x,y),some d=>(match((E.Θ.look t).bind (·.elem)).bind E.Θ.look with
  |some i=>bif CU ([x,y].map (Ks s))&&(match jsO ([x,y].map (Ks s))with
    |[]=>false
    |a::l=>(a::l).all (mvB ops o))&&Nat.blt d E.h.n&&Nat.blt 0 i.bytes&&Nat.blt 0 i.ty.w then(match Ua s i.ty (s.ev y)with
   |some (d',ys)=>match Ub i.ty d' (s.ev x)with
    |some (dx,xs)=>bif dOK i.ty d' dx then some ⟨Ib xs+Ib ys<=Nb i.bytes,inferInstance,jsO ([x,y].map (Ks s)),d,(bif E.h.fz.contains d then XI (.one (.c (.sl i.ty) (dx+1) (Aaq xs ys)))else .one (.c (.sl i.ty) (dx+1) (Aaq xs ys)))⟩else none
    |none=>none
   |none=>none)else none
  |none=>none)
 |_,_=>none
structure PM where
 α:Type
 o:Option α
 y:Nat
 d:Nat
 u:α->Sl
 z:α->Sl
variable{A:PM}
def K4(h:Cs)(B:Nat->Bool)(sl:Nat->Nat)(Us:List EnU)(s:St)(o:Oper):Option PM:=match Ij o.op,o.dst with
 |some (f,xs),some d=>match Ju Us f with
  |some e=>match xs.toList[e.S.k]? with
   |some (.tmp z)=>match s.t (sl z)with
    |.one (.c t dd x)=>if ht:t=e.S.t then
      bif Nat.beq dd e.S.d&&Nat.blt d h.n&&Nat.blt (sl z) h.n&& !Nat.beq (sl z) d&&B z&&DS e.S.rs&&((CI e.S.k xs.toList).map s.ev).all uok&&(CI e.S.k xs.toList).all s.liveX then
       (match D4 s e.S.ps ((CI e.S.k xs.toList).map s.ev)with
       |some J=>some ⟨(RT e.S.rs).T×e.S.t.T,OF (bif e.S.eat then true else Z9 e.S.t (ht▸x)) (e.g J (ht▸x)) none,sl z,d,λu=>bif e.S.eat then .one .dead else .one (.c e.S.t e.S.d u.2),λu=>bif h.fz.contains d then XI (My true e.S.rs u.1)else My true e.S.rs u.1⟩
       |none=>none)else none
     else none
    |_=>none
   |_=>none
  |none=>none
 |_,_=>none
def X7(h:Cs)(e:Nat->Bool)(Us:List EnU)(ops:Array Oper)(s:St)(o:Oper):Option PM:=K4 h (okU h e ops o) (UR h ops o) Us s o
def Yc:Option (Nat×Sl)->(Nat->Sl)->Nat->Sl
 |some (d,y),t=>AJ t d y
 |none,t=>t
def Q4{R:Type}(E:Env)(hd:Bool)(ops:Array Oper):List Seg->St->(St->Option R)->Option R
 |[],s,K=>K s
 |.one o::l,s,K=>match o.guard with
  |none=>bif hd&&alM E.h ops o then(match o.dst with
   |some d=>bif Nat.blt d E.h.n then Q4 E hd ops l ⟨AJ s.t d (.one .dead),s.r⟩ K else none
   |none=>none)else match mvF E ops s o with
   |some (y,u,d,z)=>Q4 E hd ops l ⟨AJ (AJ s.t y u) d z,s.r⟩ K
   |none=>match(bif hd then lqF E ops s o else none)with
    |some (js,pu,ds)=>Q4 E hd ops l ⟨Yc ds (Yc pu (CK js s.t)),s.r⟩ K
    |none=>match(bif hd then appO E ops s o else none)with
     |some A=>oif A.p A.dec (Q4 E hd ops l ⟨AJ (CK A.js s.t) A.d A.y,s.r⟩ K)
     |none=>match(bif hd then X7 E.h (dX E) E.U ops s o else none)with
      |some A=>ID A.o λu=>Q4 E hd ops l ⟨AJ (AJ s.t A.y (A.u u)) A.d (A.z u),s.r⟩ K
      |none=>YX E s o.type o.op λy=>match s.putX hd E.h o.dst y with
       |some s'=>Q4 E hd ops l s' K
       |none=>none
  |some _=>none
 |.grp g pk::l,s,K=>match Xj E.h pk with
  |some d=>ID (grpB E hd ops s g pk) λv=>Q4 E hd ops l ⟨AJ (CY g s.t) d (.one (.c .bool 0 v)),s.r⟩ K
  |none=>none
theorem BI{a b:Nat}(h:a≠b):Nat.beq a b=false:=by
 cases e:Nat.beq a b with
 |false=>rfl
 |true=>simp_all
theorem DC:∀(g:List Oper) (t:Nat->Sl) (i:Nat),CY g t i=if Av g i then t i else .one .dead
 |[],t,i=>rfl
 |o::g,t,i=>by
  have B:Av (o::g) i=((match o.dst with
   |some e=>!Nat.beq e i
   |none=>true)&&Av g i):=rfl
  rw[B];unfold CY;cases hd:o.dst with
  |none=>
   exact DC g t i
  |some d=>
   simp;rw[DC g];by_cases u:d=i
   .subst u
    simp[AJ]
   .have U:=BI u
    have J:=BI (Ne.symm u);simp[AJ,U,J]
def VLe(t t':Nat->V):Prop:=∀i,le1 (t i) (t' i)
def VLe.refl(t:Nat->V):VLe t t:=λ_=>.inl rfl
theorem VLe.upd(h:VLe t t')(e:le1 v v'):VLe (AI t d v) (AI t' d v'):=by
 intro i;unfold AI;split
 .grind
 .exact h i
theorem VLe.ev{t t':Nat->V}{σ:List V}(h:VLe t t')(x:Operand):le1 (Ms.ev ⟨t,σ⟩ x) (Ms.ev ⟨t',σ⟩ x):=by
 cases x with
 |tmp i=>exact h i
 |_=>exact .inl rfl
def qop_le{σ:List V}(h:VLe t t')(J:∀x∈op.operands,Ms.ev ⟨t',σ⟩ x≠.dead)(B:MG P σ (Ms.ev ⟨t',σ⟩) op K):MG P σ (Ms.ev ⟨t,σ⟩) op K:=
 Ki (λx u=>((h.ev x).resolve_right λe=>J x u e.1).symm) B
section head
variable {P:Program}{E:Env}
theorem putH_v{d:Option Nat}{K:(Nat->V)->Prop}(u:s.putH E.h d y=some s')(W:VLe t s.den.t)(hK:∀t',VLe t' s'.den.t->(∀i,d≠some i->t' i=t i)->(∀e,d=some e->(y.own&& !fzD E.h d)=false->AL (t' e)=false)->K t'):QK E.h d t K (y.v s.r):=by
 unfold St.putH at u;split at u
 .cases u
 .rename_i d
  obtain⟨hb,u⟩:=Bb u
  have U:∀v:V,AL (frz v)=false:=by
   intro v
   induction v with
   |many t n f ih=>show((List.range n).any λk=>AL (frz (f k)))=false;rw[List.any_eq_false];intro k _;rw[ih k];simp
   |nd=>rfl
   |_=>rfl
  refine⟨blE hb,hK _ ?_ (λi hi=>if_neg λe=>hi (by rw[e])) λe he J=>?_⟩
  rotate_left
  .cases he
   unfold AI;rw[if_pos rfl];split
   .exact U _
   .rename_i B
    rw[Sl.own_v];have B:E.h.fz.contains d=false:=by simpa using B
    have J:(y.own&& !E.h.fz.contains d)=false:=J;rw[B]at J;simpa using J
  cases Z:E.h.fz.contains d with
  |true=>
   rw[Z]at u;simp only[cond_true]at u;split at u
   .rename_i y' hy
    cases u;simp only[if_true];rw[Sl.frz_v hy];show VLe _ (λi=>(AJ s.t d y' i).v s.r)
    rw[B2];exact W.upd (.inl rfl)
   .cases u
  |false=>
   rw[Z]at u;simp only[cond_false,Option.some.injEq]at u;subst u;show VLe _ (λi=>(AJ s.t d y i).v s.r)
   rw[B2];exact W.upd (.inl rfl)
theorem putH_r{d:Option Nat}(u:s.putH E.h d y=some s'):s'.r=s.r/\∃e,d=some e/\∀i,i≠e->s'.t i=s.t i:=by
 unfold St.putH at u;split at u
 .cases u
 .rename_i d
  have U:∀B,∀i,i≠d->AJ s.t d B i=s.t i:=λB i hi=>by
   unfold AJ;cases Z:Nat.beq i d with
   |false=>rfl
   |true=>simp_all
  cases W:Nat.blt d E.h.n with
  |false=>grind
  |true=>
   rw[W]at u;simp only[cond_true]at u;cases J:E.h.fz.contains d with
   |true=>
    rw[J]at u;split at u
    .cases u;grind
    grind
   |false=>
    rw[J]at u;simp[cond_false,Option.some.injEq]at u;subst u
    grind
theorem AK(h:Av (o::g) d=true):o.dst≠some d/\Av g d=true:=by
 have u:Av (o::g) d=((match o.dst with
  |some e=>!Nat.beq e d
  |none=>true)&&Av g d):=rfl
 rw[u,bAE]at h;refine⟨λhd=>?_,h.2⟩
 simp_all
theorem VW{l:List V}{c:Nat}:(l.set c .dead).getD k .dead=if k=c then .dead else l.getD k .dead:=by grind
theorem mvF_v{ops:Array Oper}{y:Nat}{u z:Sl}(ht:VLe t s.den.t)(h:mvF E ops s o=some (y,u,d,z)):
  o.dst=some d/\d<E.h.n/\E.h.fz.contains d=false/\∃ys,(∀p∈ys,I6 ops o p=true)/\mq t o ys (z.v s.r)/\VLe (AI (AP ys t) d (z.v s.r)) (St.den ⟨AJ (AJ s.t y u) d z,s.r⟩).t/\
   ((∃e∈o.after,Region.binds .any e=true/\AH ops e.on=some y)\/(dX E y=true/\Jt o y=true)):=by
 have own:∀y,(s.t y).own=true->t y=s.den.t y:=by
  intro y hy;rcases ht y with e|e
  .exact e
  .have h5:AL (s.den.t y)=(s.t y).own:=Sl.own_v (s.t y)
   rw[e.1,hy]at h5;cases h5
 have vle:∀ys (V0:V),(∀x,AP ys t x=if x=y then V0 else t x)->le1 V0 (u.v s.r)->VLe (AI (AP ys t) d (z.v s.r)) (St.den ⟨AJ (AJ s.t y u) d z,s.r⟩).t:=by
  intro ys V0 hk hu;show VLe _ (λi=>(AJ (AJ s.t y u) d z i).v s.r)
  rw[B2];refine VLe.upd ?_ (.inl rfl);rw[B2];intro i;rw[hk];unfold AI;split
  .exact hu
  .exact ht i
 have kM:∀(y:Nat) (tk:Tk) x,AP [(y,tk)] t x=if x=y then kapp tk (t y)else t x:=by
  intro y tk x;unfold AP;by_cases hx:x=y
  .subst hx
   rw[if_pos rfl];show HR (if x=x then some tk else none) _=_
   rw[if_pos rfl];rfl
  .rw[if_neg hx]
   show HR (if y=x then some tk else none) _=_
   rw[if_neg (Ne.symm hx)];rfl
 have edge:∀y,mvB ops o y=true->∃e∈o.after,Region.binds .any e=true/\AH ops e.on=some y:=by
  intro y hy;unfold mvB at hy;rw[bAE]at hy;exact Hc hy.2
 have W:∀(B d':Nat),(o.op=.assign (.tmp B)\/o.op=.move (.tmp B))->o.dst=some d'->(bif(s.t B).own&&Nat.blt d' E.h.n&& !E.h.fz.contains d'&&(mvB ops o B||(dX E B&&mvR ops o B))then some (B,hdS (s.t B),d',s.t B)else none)=some (y,u,d,z)->
   o.dst=some d/\d<E.h.n/\E.h.fz.contains d=false/\∃ys,(∀p∈ys,I6 ops o p=true)/\mq t o ys (z.v s.r)/\VLe (AI (AP ys t) d (z.v s.r)) (St.den ⟨AJ (AJ s.t y u) d z,s.r⟩).t/\
   ((∃e∈o.after,Region.binds .any e=true/\AH ops e.on=some y)\/(dX E y=true/\Jt o y=true)):=by
  intro B d' J U h;obtain⟨hb,h⟩:=Bb h;simp only[cond_true,Option.some.injEq,Prod.mk.injEq]at h;obtain⟨rfl,rfl,rfl,rfl⟩:=h;simp only[bAE,Bool.not_eq_true']at hb;obtain⟨⟨⟨h1,h2⟩,h3⟩,h4⟩:=hb
  exact⟨U,blE h2,h3,[(B,.put (hdV ((s.t B).v s.r)))],λp hp=>by
   rw[List.mem_singleton.1 hp];show(mvB ops o B||mvR ops o B||mvC ops o B)=true;refine Bool.or_eq_true _ _▸ .inl (show(mvB ops o B||mvR ops o B)=true from ?_)
   rw[Bool.or_eq_true]at h4⊢;exact h4.imp id λh=>by rw[bAE]at h;exact h.2,.inl ⟨B,J,rfl,(own B h1).symm⟩,vle _ (hdV ((s.t B).v s.r)) (λx=>kM B (.put (hdV ((s.t B).v s.r))) x) (.inl (hdS_v s.r (s.t B))),(by
   rw[Bool.or_eq_true]at h4;rcases h4 with h4|h4
   .exact .inl (edge B h4)
   .rw[bAE]at h4
    refine .inr ⟨h4.1,?_⟩;unfold Jt;rcases J with J|J<;>(rw[J];exact Nat.beq_refl _))⟩
 unfold mvF at h;split at h
 .rename_i B d' J U
  exact W B d' (.inl J) U h
 .rename_i B d' J U
  exact W B d' (.inr J) U h
 .rename_i B c d' J U
  split at h
  case h_2=>cases h
  rename_i l hl;split at h
  case h_2=>cases h
  rename_i q hq;split at h
  case h_2=>cases h
  rename_i z' hz;obtain⟨hb,h⟩:=Bb h;simp only[cond_true,Option.some.injEq,Prod.mk.injEq]at h;obtain⟨rfl,rfl,rfl,rfl⟩:=h;simp only[bAE,Bool.not_eq_true']at hb;obtain⟨⟨⟨h1,h2⟩,h3⟩,h4⟩:=hb;obtain⟨hc,hq'⟩:=List.getElem?_eq_some_iff.1 hq
  -- the part's value
  have hzv:z'.v s.r=(if q.1 then An (q.2.map (Cl.v s.r))else(q.2.map (Cl.v s.r)).getD 0 .dead):=by
   obtain⟨b,m⟩:=q;cases b with
   |true=>cases hz;rfl
   |false=>cases m with
    |nil=>cases hz
    |cons a m=>cases hz;rfl
  obtain⟨L,hL⟩:∃L:List V,L=l.map λp=>if p.1 then An (p.2.map (Cl.v s.r))else(p.2.map (Cl.v s.r)).getD 0 .dead:=⟨_,rfl⟩
  have hLc:L.getD c .dead=z'.v s.r:=by
   rw[hL,hzv];simp[List.getElem?_map,hq]
  have hcL:c<L.length:=by rw[hL];simpa using hc
  have Z:s.den.t B=Do L:=by
   show(s.t B).v s.r=_;rw[hl,hL];rfl
  have hown:(s.t B).own=true:=by
   have h5:AL (s.den.t B)=(s.t B).own:=Sl.own_v (s.t B);rw[<-h5,Z];have h6:AL (z'.v s.r)=true:=by rw[Sl.own_v];exact h1
   show AL (V.many .tu L.length λk=>L.getD k .dead)=true
   simp only[AL];rw[List.any_eq_true];exact⟨c,List.mem_range.2 hcL,by rw[hLc];exact h6⟩
  have hty:=own B hown;refine⟨U,blE h2,h3,[(B,.part c)],λp hp=>by rw[List.mem_singleton.1 hp];exact h4,.inr ⟨B,c,L.length,λk=>L.getD k .dead,J,rfl,hty.trans Z,hcL,hLc.symm⟩,vle _ _ (λx=>kM B (.part c) x) (.inl ?_),?_⟩
  .rw[hty,Z]
   show Ng c (V.many .tu L.length λk=>L.getD k .dead)=Do ((l.set c (false,[])).map λp=>if p.1 then An (p.2.map (Cl.v s.r))else(p.2.map (Cl.v s.r)).getD 0 .dead)
   rw[List.map_set,<-hL];show V.many _ _ _=V.many _ (L.set c V.dead).length _;rw[List.length_set]
   congr 1
   funext k
   exact VW.symm
  .unfold exB at h4
   rw[bAE]at h4;exact .inl (Hc h4.2)
 .cases h
theorem PF{f:FuncId}{xs:Array Operand}(h:Ij op=some (f,xs)):∃e,op=.call ⟨.value (.func f),xs,e⟩:=by
 unfold Ij at h;split at h
 case h_2=>grind
 rename_i c;obtain⟨callee,args,e⟩:=c;split at h
 case h_2=>grind
 simp_all
theorem QM{l:List Operand}(e:k<l.length)(u:i≠k)(h:l[i]? =some x):x∈CI k l:=by
 rcases Nat.lt_or_ge i k with hlt|hge
 .exact List.mem_of_getElem? (by rw[Nn hlt e];omega)
 .obtain⟨j,rfl⟩:∃j,i=j+1:=⟨i-1,by omega⟩
  exact List.mem_of_getElem? (i:=j) (by rw[Np (by omega) e];grind)
theorem Mg(hU:∀e∈Us,e.OK P){okf:Nat->Bool}{sl:Nat->Nat}{Al:Nat->Nat->Prop}(hal:∀z,sl z=z\/Al z (sl z))(ht:VLe t s.den.t)(h:K4 hh okf sl Us s o=some A){u:A.α}(hu:A.o=some u):
  ∃v r,Qt o.op=true/\LQ P hh.n s.den.σ Al o t [(A.y,.put v)] r/\VLe (Ip o.dst r (AP [(A.y,.put v)] t)) (St.den ⟨AJ (AJ s.t A.y (A.u u)) A.d (A.z u),s.r⟩).t/\o.dst=some A.d/\A.y≠A.d/\A.y<hh.n/\∃f xs e z,Ij o.op=some (f,xs)/\Ju Us f=some e/\xs.toList[e.S.k]? =some (.tmp z)/\sl z=A.y/\okf z=true:=by
 unfold K4 at h;split at h
 case h_2=>cases h
 rename_i f xs d U hd;split at h
 case h_2=>cases h
 rename_i e he;split at h
 case h_2=>cases h
 rename_i zk hk;split at h
 case h_2=>cases h
 rename_i t0 dd x hy;obtain⟨y,W⟩:∃y,sl zk=y:=⟨_,rfl⟩;simp only[W]at h hy;split at h
 case isFalse=>cases h
 rename_i hte;subst hte;generalize hB:(Nat.beq dd e.S.d&&Nat.blt d hh.n&&Nat.blt y hh.n&& !Nat.beq y d&&okf zk&&DS e.S.rs&&((CI e.S.k xs.toList).map s.ev).all uok&&(CI e.S.k xs.toList).all s.liveX)=B at h;cases B with
 |false=>cases h
 |true=>
 simp only[bAE,Bool.not_eq_true']at hB;obtain⟨⟨⟨⟨⟨⟨⟨h1,h2⟩,h3⟩,h4⟩,h6⟩,h7⟩,h8⟩,h9⟩:=hB;simp only[cond_true]at h;split at h
 case h_2=>cases h
 rename_i z hz;cases h;obtain⟨⟨hcall,J,hft⟩,hfe⟩:=Pq hU he;have hop0:=U;obtain⟨ats,U⟩:=PF U;have hdd:=bqE h1;have hyd:y≠d:=λe=>by rw[e,Nat.beq_refl]at h4;cases h4
 have hks:e.S.k<xs.toList.length:=(List.getElem?_eq_some_iff.1 hk).1;have hu:OF (bif e.S.eat then true else Z9 e.S.t x) (e.g z x) none=some u:=hu;obtain⟨hho,hu⟩:=Bb hu;have hu:e.g z x=some u:=hu;have hpos:0<e.S.d:=by
  unfold NH.ok at J;simp only[bAE]at J;exact blE J.1.1
 have hnd:∃s sz n f,cV e.S.t e.S.d x=.nd s true sz n f:=by
  unfold NH.ok at J;simp only[bAE]at J;exact treeND hpos J.2
 have hhold:Ky (cV e.S.t e.S.d x)\/(bif e.S.eat then V.dead else cV e.S.t e.S.d u.2)=.dead:=by
  cases he:e.S.eat with
  |true=>exact .inr rfl
  |false=>
   rw[he]at hho;exact .inl (Z8 hpos hho)
 have hty:t y=cV e.S.t e.S.d x:=by
  have e1:s.den.t y=cV e.S.t e.S.d x:=by
   show(s.t y).v s.r=_;rw[hy,hdd];rfl
  rcases ht y with e2|⟨e2,_⟩
  .rw[e2,e1]
  .obtain⟨_,_,_,_,e3⟩:=hnd
   rw[e1,e3]at e2;cases e2
 obtain⟨k1,k2⟩:=YV hks hz h8;have hc:=hft z x u hu;rw[hfe]at hcall hc;have hzy:zk=y\/Al zk y:=by
  rcases hal zk with h|h
  .exact .inl (h.symm.trans W)
  .rw[W]at h;exact .inr h
 have hlq:=XZ (Al:=Al) (P:=P) (N:=hh.n) (σ:=s.den.σ) (t:=t) U hd (blE h2) (blE h3) hyd hcall (by rw[<-Array.getElem?_toList];exact hk) hzy (Sub.of_eq hty) hnd hhold (by simpa using k1) (λi x' hik hx=>by
  have hx:xs.toList[i]? =some x':=by rw[Array.getElem?_toList];exact hx
  have hl:=aET.1 h9 x' (QM hks hik hx);have hev:Ms.ev ⟨t,s.den.σ⟩ x'=s.den.ev x':=(ht.ev (σ:=s.den.σ) x').resolve_right λe=>VD hl e.1
  rw[hev];exact k2 i x' hik hx) hc
 have e2:AP [(y,.put (bif e.S.eat then .dead else cV e.S.t e.S.d u.2))] t=AI t y (bif e.S.eat then .dead else cV e.S.t e.S.d u.2):=by
  funext i
  unfold AP AI;by_cases hi:i=y
  .subst hi
   rw[if_pos rfl];show HR (if i=i then some (.put _)else none) _=_
   rw[if_pos rfl];rfl
  .rw[if_neg hi]
   show HR (if y=i then some (.put _)else none) _=_
   rw[if_neg (Ne.symm hi)];rfl
 have e3:∀Z:Sl,(St.den ⟨AJ (AJ s.t y (bif e.S.eat then Sl.one .dead else .one (.c e.S.t e.S.d u.2))) d Z,s.r⟩).t=AI (AI s.den.t y (bif e.S.eat then .dead else cV e.S.t e.S.d u.2)) d (Z.v s.r):=by
  intro Z;show(λi=>(AJ (AJ s.t y _) d _ i).v s.r)=_
  rw[B2]
  congr 1
  show(λi=>(AJ s.t y _ i).v s.r)=_
  rw[B2]
  congr 1
  cases e.S.eat<;>rfl
 have e4:(My true e.S.rs u.1).v s.r=U0 e.S.rs u.1:=by rw[O0 _ _ _ h7,D5]
 have hfz:∀v:V,AL (Go.Ve.frz v)=false:=by
  intro v
  induction v with
  |many t n f ih=>show((List.range n).any λk=>AL (Go.Ve.frz (f k)))=false;rw[List.any_eq_false];intro k _;rw[ih k];simp
  |nd=>rfl
  |_=>rfl
 cases hf:hh.fz.contains d with
 |false=>
  refine⟨_,_,by rw[U];rfl,hlq,?_,hd,hyd,blE h3,f,xs,e,zk,hop0,he,hk,W,h6⟩
  show VLe _ (St.den ⟨AJ (AJ s.t y (bif e.S.eat then Sl.one .dead else .one (.c e.S.t e.S.d u.2))) d (bif false then XI (My true e.S.rs u.1)else My true e.S.rs u.1),s.r⟩).t;rw[e3,hd,e2];show VLe (AI _ d _) (AI _ d ((My true e.S.rs u.1).v s.r));rw[e4];exact VLe.upd (ht.upd (.inl rfl)) (.inl rfl)
 |true=>
  refine⟨_,_,by rw[U];rfl,hlq.frzR hd (blE h2),?_,hd,hyd,blE h3,f,xs,e,zk,hop0,he,hk,W,h6⟩
  show VLe _ (St.den ⟨AJ (AJ s.t y (bif e.S.eat then Sl.one .dead else .one (.c e.S.t e.S.d u.2))) d (bif true then XI (My true e.S.rs u.1)else My true e.S.rs u.1),s.r⟩).t;rw[e3,hd,e2];show VLe (AI _ d _) (AI _ d ((XI (My true e.S.rs u.1)).v s.r));refine VLe.upd (ht.upd (.inl rfl)) ?_;unfold XI;cases hz2:(My true e.S.rs u.1).frz with
  |none=>exact .inr ⟨rfl,hfz _⟩
  |some z2=>
   left;show _=z2.v s.r;rw[<-e4];exact Sl.frz_v hz2
theorem WY(hU:∀e∈Us,e.OK P){ops:Array Oper}(Z:VLe t s.den.t){U:Nat->Bool}(h:X7 hh U Us ops s o=some A){u:A.α}(W:A.o=some u):
  ∃ys r,(∀p∈ys,I6 ops o p=true\/PU hh ops o p=true)/\Qt o.op=true/\LQ P hh.n s.den.σ (AlP hh ops o) o t ys r/\VLe (Ip o.dst r (AP ys t)) (St.den ⟨AJ (AJ s.t A.y (A.u u)) A.d (A.z u),s.r⟩).t/\o.dst=some A.d/\∃f xs e z,Ij o.op=some (f,xs)/\Ju Us f=some e/\xs.toList[e.S.k]? =some (.tmp z)/\UR hh ops o z=A.y/\okU hh U ops o z=true:=by
 obtain⟨v,r,h1,h2,h3,h4,_,_,f,xs,e,z,g1,g2,g3,B,J⟩:=Mg hU (λz=>by
  unfold UR;cases hs:alS hh ops o z with
  |none=>exact .inl rfl
  |some y=>exact .inr (alS_v hs)) Z h W
 refine⟨_,r,λp hp=>?_,h1,h2,h3,h4,f,xs,e,z,g1,g2,g3,B,J⟩
 rw[List.mem_singleton.1 hp];unfold okU at J;unfold UR at B;cases hs:alS hh ops o z with
 |none=>
  rw[hs]at B J;have B:z=A.y:=B;left;show(mvB ops o A.y||mvR ops o A.y||mvC ops o A.y)=true
  grind
 |some y=>
  rw[hs]at B J;have B:y=A.y:=B;rw[B]at J;exact .inr J
theorem lqF_v(hE:EOK P E){ops:Array Oper}{pu ds:Option (Nat×Sl)}(ht:VLe t s.den.t)(h:lqF E ops s o=some (js,pu,ds))(hmo:o∈ops.toList):
  ∃ys r,(∀p∈ys,I6 ops o p=true)/\Qt o.op=true/\LQ P E.h.n s.den.σ (AlP E.h ops o) o t ys r/\VLe (Ip o.dst r (AP ys t)) (St.den ⟨Yc ds (Yc pu (CK js s.t)),s.r⟩).t/\
   (∀i,Av ops.toList i=true->yB E ops i=false->o.dst≠some i->Yc ds (Yc pu (CK js s.t)) i=s.t i):=by
 have own:∀y,AL (t y)=(s.t y).own:=by
  intro y;have h5:AL (s.den.t y)=(s.t y).own:=Sl.own_v (s.t y);rcases ht y with e|⟨e1,e2⟩
  .rw[e];exact h5
  .rw[e1]at h5;rw[e2,<-h5];rfl
 have hev:∀x,s.den.ev x≠.dead->Ms.ev ⟨t,s.den.σ⟩ x=s.den.ev x:=λx hx=>((ht.ev (σ:=s.den.σ) x).resolve_right λe=>hx e.1)
 have edge:∀y,mvB ops o y=true->∃e∈o.after,Region.binds .any e=true/\AH ops e.on=some y:=by
  intro y J;unfold mvB at J;rw[bAE]at J;exact Hc J.2
 have notW:∀y i,Av ops.toList i=true->mvB ops o y=true->i≠y:=by
  rintro y i hn J rfl
  obtain⟨e,_,_,hed⟩:=edge i J;unfold AH at hed;rw[Option.bind_eq_some_iff]at hed;obtain⟨ok,hok,hokd⟩:=hed;have hmem:ok∈ops.toList:=by
   rw[<-Array.getElem?_toList]at hok;exact List.mem_of_getElem? hok
  have:Av [ok] i=true:=by
   unfold Av at hn⊢;rw[aET]at hn⊢;exact λo ho=>hn o (by rw[List.mem_singleton.1 ho];exact hmem)
  exact(AK this).1 hokd
 have deadN:∀(js:List Nat) i,(∀y∈js,mvB ops o y=true)->Av ops.toList i=true->CK js s.t i=s.t i:=by
  intro js i hj hn;unfold CK;have:js.contains i=false:=by
   cases hc:js.contains i with
   |false=>rfl
   |true=>exact absurd rfl (notW i i hn (hj i (by simpa using hc)))
  rw[this];rfl
 have kill:∀(js:List Nat) (xs:List Operand),xs.map (H8 t)=xs.map (Ks s)->js=jsO (xs.map (Ks s))->VLe (AP ((A8 t xs).map λy=>(y,.all)) t) (λi=>(CK js s.t i).v s.r):=by
  intro js xs hx hj i;rw[C6,CC hx,<-hj];show le1 _ ((bif js.contains i then Sl.one Cl.dead else s.t i).v s.r);by_cases hi:i∈js
  .have:js.contains i=true:=by simpa using hi
   rw[if_pos hi,this];exact .inl rfl
  .have:js.contains i=false:=by simpa using hi
   rw[if_neg hi,this];exact ht i
 unfold lqF at h;split at h
 case h_4=>cases h
 .-- a struct
  rename_i ty ps d W B;obtain⟨xs,U⟩:∃xs,xs=ps.toList.map (·.2):=⟨_,rfl⟩
  rw[<-U]at h;have u:=Pf own xs;obtain⟨hb,h⟩:=Bb h;simp only[bAE]at hb;obtain⟨⟨h1,h2⟩,h3⟩:=hb;have h3:d<E.h.n:=blE h3
  have hmv:∀y∈jsO (xs.map (Ks s)),mvB ops o y=true:=by
   intro y J;split at h2
   .cases h2
   .rename_i a l e;rw[e]at J;exact aET.1 h2 y J
  split at h
  case h_2=>cases h
  rename_i i hi;obtain⟨hag,h⟩:=Bb h;split at h
  case h_2=>cases h
  rename_i l hl;cases h;obtain⟨k1,k2⟩:=K7 (ev:=Ms.ev ⟨t,s.den.σ⟩) _ _ _ (λp _=>hev p.2) hl
  rw[IZ]at k2;have hbi:=hE.Θ.bd hi;rw[hag]at hbi;obtain⟨l',hl'⟩:∃l',l'=(bif E.h.fz.contains (2000000+d)then Qs (AB i.ty 0 i.ty.dflt) l else l):=⟨_,rfl⟩
  have Z:Sub (An (l.map (Cl.v s.r))) (An (l'.map (Cl.v s.r))):=by
   rw[hl'];cases E.h.fz.contains (2000000+d)with
   |false=>exact Sub.refl _
   |true=>
    show Sub (V.many _ _ _) (V.many _ _ _);refine⟨λk=>((Qs (AB i.ty 0 i.ty.dflt) l).map (Cl.v s.r)).getD k .dead,by simp[Ls],λk _=>Vt s.r _ _ k⟩
  rw[<-hl'];refine⟨_,_,λp hp=>?_,by rw[W];rfl,(X1 (Al:=AlP E.h ops o) W B h3 hbi (by rw[<-U,u];exact h1) k1 k2).sub (λ_ h=>h) (λ_ _=>Sub.refl _) Z,?_,λi hn hx hd=>?_⟩
  .rw[<-U,CC u]at hp
   obtain⟨y,J,rfl⟩:=List.mem_map.1 hp;exact hmv y J
  .rw[B,<-U]
   show VLe (AI _ d (An (l'.map (Cl.v s.r)))) (λi=>(AJ (CK _ s.t) d (.agg l') i).v s.r)
   rw[B2];exact(kill _ xs u rfl).upd (.inl rfl)
  .show AJ (CK _ s.t) d _ i=_
   unfold AJ;rw[BI λe=>hd (by rw[B,e])]
   exact deadN _ i hmv hn
 .-- a slice's literal
  rename_i ty n ps d W B;obtain⟨xs,U⟩:∃xs,xs=ps.toList.map (·.2):=⟨_,rfl⟩
  rw[<-U]at h;have u:=Pf own xs;obtain⟨hb,h⟩:=Bb h;simp only[bAE]at hb;obtain⟨⟨h1,h2⟩,h3⟩:=hb;have h3:d<E.h.n:=blE h3
  have hmv:∀y∈jsO (xs.map (Ks s)),mvB ops o y=true:=by
   intro y J;split at h2
   .cases h2
   .rename_i a l e;rw[e]at J;exact aET.1 h2 y J
  split at h
  case h_2=>cases h
  rename_i j hj;obtain⟨e,hsl,_⟩:=DH hE.Θ hj;obtain⟨hb2,h⟩:=Bb h;simp only[bAE]at hb2;have hw:=KP hb2.1;have hnw:=blE hb2.2;split at h
  case h_2=>cases h
  rename_i l hl;obtain⟨hk,h⟩:=Bb h;split at h
  case h_2=>cases h
  rename_i zs hzs;cases h;obtain⟨k1,k2⟩:=K7 (ev:=Ms.ev ⟨t,s.den.σ⟩) _ _ _ (λp _=>hev p.2) hl
  rw[U1 s.r j.ty n hw]at k2;obtain⟨p1,p2,p3⟩:=N7 s.r n _ zs hzs
  have Z:Sub (.nd true true j.ty.w n λi k=>(l.map (Cl.v s.r)).getD (i*j.ty.w+k) .dead) (cV (.sl j.ty) (j.sd+1) zs):=by
   show Sub _ (V.nd true true j.ty.w zs.length _);rw[p1];refine⟨_,rfl,λi k hi hk=>?_⟩
   have:=p3 i k hi hk;rw[List.map_map]at this;have e:(Cl.v s.r∘fit j.sd)=Cl.v s.r:=funext λy=>(fitO_v _ s.r y).1
   rw[e]at this;exact this
  refine⟨_,_,λp hp=>?_,by rw[W];rfl,(L6 (Al:=AlP E.h ops o) W B h3 hsl hw hnw (by rw[<-U,u];exact h1) k1 k2 ?_).sub (λ_ h=>h) (λ_ _=>Sub.refl _) Z,?_,λi hn hx hd=>?_⟩
  .rw[<-U,CC u]at hp
   obtain⟨y,J,rfl⟩:=List.mem_map.1 hp;exact hmv y J
  .intro v hv
   obtain⟨y,J,rfl⟩:=List.mem_map.1 hv;exact(VH (aET.1 hk y J)).1
  .rw[B,<-U]
   show VLe (AI _ d _) (λi=>(AJ (CK _ s.t) d _ i).v s.r)
   rw[B2];exact(kill _ xs u rfl).upd (.inl rfl)
  .show AJ (CK _ s.t) d _ i=_
   unfold AJ;rw[BI λe=>hd (by rw[B,e])]
   exact deadN _ i hmv hn
 .-- a store
  rename_i ty p x W B;split at h
  case h_2=>cases h
  rename_i lp l i hp hl hi;obtain⟨hb,h⟩:=Bb h;simp only[cond_true,Option.some.injEq,Prod.mk.injEq]at h;obtain⟨rfl,rfl,rfl⟩:=h;simp only[bAE,Bool.or_eq_true]at hb;obtain⟨⟨⟨⟨⟨⟨h1,h2⟩,h3⟩,h4⟩,h5⟩,h6⟩,h7⟩:=hb;have h2:p<E.h.n:=blE h2;have h3:=bqE h3;have h4:=bqE h4;obtain⟨y,J,hyl⟩:=Option.bind_eq_some_iff.1 hl;obtain⟨g1,g2,g3⟩:=PE (r:=s.r) hyl;have hx:Ms.ev ⟨t,s.den.σ⟩ x=y.v s.r:=by
   rw[<-Bh J];refine hev x ?_;rw[Bh J];intro e;rw[e]at g1;cases g1
  have htp:t p=Bj true (lp.map Cl.v0):=by
   have e:s.den.t p=Bj true (lp.map Cl.v0):=newC_v hp s.r;rcases ht p with h|⟨h,_⟩
   .rw[h,e]
   .rw[e]at h;cases h
  have hxp:x≠.tmp p:=by
   rintro rfl
   have h7:(!Nat.beq p p)=true:=h7;rw[Nat.beq_refl]at h7;cases h7
  have u:=Pf own [x];have hlv:l.map (Cl.v s.r)=l.map Cl.v0:=List.map_congr_left λc hc=>(VH (aET.1 h5 c hc)).2
  have hmv:∀y∈jsO ([x].map (Ks s)),mvB ops o y=true:=aET.1 h6;have hti:=hE.Θ.ty hi
  have hlq:=X0 (Al:=AlP E.h ops o) (P:=P) (N:=E.h.n) (σ:=s.den.σ) (t:=t) W B hti htp (by simpa using h3) h2 hxp (by rw[hx];exact g1) (by rw[hx,g2];simpa using h4)
   (by
    rw[hx,g2];intro v hv;obtain⟨c,hc,rfl⟩:=List.mem_map.1 hv;exact(VH (aET.1 h5 c hc)).1)
   (by
    rw[hx,g2];intro v hv;obtain⟨c,hc,rfl⟩:=List.mem_map.1 hv;exact g3 c hc)
  rw[hx,g2,hlv]at hlq;have hnp:p∉A8 t [x]:=by
   intro hm;rw[CC u]at hm;cases x with
   |tmp z=>
    have hz:z≠p:=λe=>hxp (by rw[e])
    have hm:p∈jsO [bif(s.t z).own then some z else none]:=hm;cases ho:(s.t z).own with
    |true=>rw[ho]at hm;exact hz (List.mem_singleton.1 hm).symm
    |false=>rw[ho]at hm;cases hm
   |const v=>cases hm
   |global g=>cases hm
   |func f=>cases hm
  have Z:Sub (Bj true (l.map Cl.v0)) (Bj true ((Qs lp l).map Cl.v0)):=by
   unfold Bj;have e:((Qs lp l).map Cl.v0).length=(l.map Cl.v0).length:=by simp[Ls]
   rw[e];refine⟨_,rfl,λi k hi hk=>?_⟩
   obtain rfl:i=0:=by omega
   exact Yn lp l k
  refine⟨(p,.put (Bj true ((Qs lp l).map Cl.v0)))::(A8 t [x]).map λy=>(y,.all),.dead,λq hq=>?_,by rw[W];rfl,hlq.sub (λz hz=>?_) (λz v=>?_) (Sub.refl _),?_,λi hn hx hd=>?_⟩
  .rcases List.mem_cons.1 hq with rfl|hq
   .show(mvB ops o p||mvR ops o p||mvC ops o p)=true
    rcases h1 with h1|h1
    .rw[h1];rfl
    .rw[h1.2,Bool.or_true];rfl
   .rw[CC u]at hq
    obtain⟨y,J,rfl⟩:=List.mem_map.1 hq;exact hmv y J
  .by_cases hzp:z=p
   .subst hzp;rw[HB];simp
   .rw[HA hzp]at hz⊢;exact hz
  .by_cases hz:z=p
   .subst hz;rw[HB,HB];exact Z
   .rw[HA hz,HA hz];exact Sub.refl _
  .rw[B]
   show VLe (AP _ t) (λi=>(AJ (CK _ s.t) p (.new (Qs lp l)) i).v s.r)
   rw[B2];have hk:=kill _ [x] u rfl;intro i;unfold AI;by_cases hi:i=p
   .subst hi
    rw[if_pos rfl];unfold AP;rw[HB];exact .inl rfl
   .rw[if_neg hi]
    have:=hk i;unfold AP at this⊢;rw[HA hi];exact this
  .show AJ (CK _ s.t) p _ i=_
   unfold AJ;have hip:i≠p:=by
    rcases h1 with h1|h1
    .exact notW p i hn h1
    .rintro rfl
     have:yB E ops i=true:=by
      unfold yB;refine List.any_eq_true.2 ⟨o,hmo,?_⟩;have e:stB o i=true:=by unfold stB;rw[W];exact Nat.beq_refl i
      rw[h1.1,e,Bool.or_true];rfl
     rw[hx]at this;cases this
   rw[BI hip];exact deadN _ i hmv hn
theorem own_le(B:VLe t s.den.t)(y:Nat):AL (t y)=(s.t y).own:=by
 have u:AL (s.den.t y)=(s.t y).own:=Sl.own_v (s.t y);rcases B y with e|⟨U,J⟩
 .grind
 .rw[U]at u;rw[J,<-u];rfl
theorem ZN{ops:Array Oper}{y:Nat}(Z:Av ops.toList i=true)(U:mvB ops o y=true):i≠y:=by
 rintro rfl
 unfold mvB at U;rw[bAE]at U;obtain⟨e,_,_,u⟩:=Hc U.2;unfold AH at u;rw[Option.bind_eq_some_iff]at u;obtain⟨ok,J,B⟩:=u;have W:=by
  rw[<-Array.getElem?_toList]at J;exact List.mem_of_getElem? J
 have:Av [ok] i=true:=by
  unfold Av at Z⊢
  grind
 exact(AK this).1 B
theorem Aam{ops:Array Oper}(u:∀y∈js,mvB ops o y=true)(e:Av ops.toList i=true):CK js s.t i=s.t i:=by
 unfold CK;have:js.contains i=false:=by
  cases B:js.contains i with
  |false=>rfl
  |true=>exact absurd rfl (ZN e (u i (by grind)))
 grind
theorem Aal(B:VLe t s.den.t){xs:List Operand}(u:xs.map (H8 t)=xs.map (Ks s))(J:js=jsO (xs.map (Ks s))):VLe (AP ((A8 t xs).map λy=>(y,.all)) t) (λi=>(CK js s.t i).v s.r):=by
 intro i;rw[C6,CC u,<-J];show le1 _ ((bif js.contains i then Sl.one Cl.dead else s.t i).v s.r);by_cases e:i∈js
 .have:js.contains i=true:=by grind
  rw[if_pos e,this];exact .inl rfl
 .have:js.contains i=false:=by grind
  rw[if_neg e,this];exact B i
def onlyS(s:St)(y:Operand):St:=⟨λi=>match y with
 |.tmp z=>bif Nat.beq i z then s.t i else .one .dead
 |_=>.one .dead,s.r⟩
theorem NK{N:Nat}(ht:VLe t s.den.t){x y:Operand}{ys:List ty.T}(hyo:y∈op.operands)(h:Ua s ty (s.ev y)=some (d,ys)):
  ∀(C:Ctx) (ρ:Nat->Value) (F:Nat->Nat->Prop) (a:Act) (w:World) (D:Nat->Prop) (T:Nat->Nat->Prop) (t':Nat->V),(∀z∈D8 op,t' z=t z)->PR C N s.den.σ ρ F t' a w D T->
   ∃Fy,Q1 D w ty.w ys.length (λi k=>(tyV ty d (ys.getD i ty.dflt)).getD k .dead) (a.eval y) Fy/\(∀i k c,i<ys.length->k<ty.w->Fy i k c->opF t' T [x,y] 1 c)/\
    ∀i k i' k' c,i<ys.length->k<ty.w->i'<ys.length->k'<ty.w->(i≠i'\/k≠k')->Fy i k c->¬Fy i' k' c:=by
 intro C ρ F a w D T t' hag hp;have hev:∀v,s.ev y=some v->v.v s.r≠.dead->Ms.ev ⟨t',s.den.σ⟩ y=v.v s.r:=by
  intro v hv Z;rw[<-Bh hv]at Z⊢;have h1:Ms.ev ⟨t,s.den.σ⟩ y=s.den.ev y:=((ht.ev (σ:=s.den.σ) y).resolve_right λe=>Z e.1)
  rw[<-h1];cases y with
  |tmp z=>exact hag z (Dg hyo)
  |const v=>rfl
  |global g=>rfl
  |func f=>rfl
 unfold Ua at h;split at h
 .rename_i t1 d1 ys1 u
  split at h
  case isFalse=>cases h
  rename_i e;subst e;obtain⟨hno,h⟩:=Bb h;cases h;have hv:=hev _ u (by intro e;cases e)
  have hr:=hp.opF_rel (xs:=[x,y]) (j:=1) (x:=y) rfl;rw[hv]at hr;exact U7 (R:=Au s.den.σ ρ w) hr λi k hi hk=>Df _ _ _ k hno hk
 .rename_i Z
  split at h
  case h_2=>cases h
  rename_i d1 ys1 u;cases h
  -- the value's slot owns nothing
  obtain⟨J,B⟩:∃J,J=onlyS s y:=⟨_,rfl⟩;have hσ2:J.den.σ=s.den.σ:=by rw[B];rfl
  have hs2:J.ev y=s.ev y:=by
   rw[B];cases y with
   |tmp z=>
    show some (bif Nat.beq z z then s.t z else .one .dead)=some (s.t z);rw[Nat.beq_refl];rfl
   |const v=>rfl
   |global g=>rfl
   |func f=>rfl
  have hdn:∀z,y=.tmp z->(t' z=s.den.t z/\(s.t z).own=false/\z<N):=by
   intro z hz;subst hz;have u:QX s ty s.r.length (some (s.t z))=some (d,ys,[]):=u
   have hnotown:(s.t z).own=false:=by
    have u:=(Wk u).1;unfold QW at u;split at u
    case h_4=>cases u
    .rename_i e;rw[Option.some.inj e];rfl
    .rename_i e;rw[Option.some.inj e];rfl
    .rename_i e;rw[Option.some.inj e];rfl
   have U:(s.t z).v s.r≠.dead:=by
    have u:=(Wk u).1;unfold QW at u;split at u
    case h_4=>cases u
    .rename_i e;rw[Option.some.inj e];intro e';cases e'
    .rename_i e;rw[Option.some.inj e];intro e';cases e'
    .rename_i e;rw[Option.some.inj e];intro e';cases e'
   have e1:t' z=s.den.t z:=hev (s.t z) rfl U;refine⟨e1,hnotown,Nat.lt_of_not_le λhz=>?_⟩
   have:=hp.dd z hz;rw[e1]at this;exact U this
  have W:∀i,J.den.t i=.dead\/(J.den.t i=t' i/\AL (t' i)=false):=by
   intro i;rw[B];cases y with
   |tmp z=>
    show(bif Nat.beq i z then s.t i else .one .dead).v s.r=.dead\/_;by_cases hiz:i=z
    .subst hiz
     obtain⟨e1,e2,_⟩:=hdn i rfl;right;refine⟨?_,?_⟩
     .show(bif Nat.beq i i then s.t i else .one .dead).v s.r=_
      rw[Nat.beq_refl,e1];rfl
     .rw[e1]
      have h5:AL (s.den.t i)=(s.t i).own:=Sl.own_v (s.t i);rw[h5];exact e2
    .rw[BI hiz];exact .inl rfl
   |const v=>exact .inl rfl
   |global g=>exact .inl rfl
   |func f=>exact .inl rfl
  have hcr:=hp.cr (t2:=J.den.t) W;have hdd:∀i,N<=i->J.den.t i=.dead:=by
   intro i hi;rcases W i with h|⟨h,_⟩
   .exact h
   .rw[h];exact hp.dd i hi
  have hy2:QX J ty s.r.length (J.ev y)=some (d,ys,[]):=by rw[hs2,B];exact u
  rw[<-hσ2]at hcr;obtain⟨⟨Fy,h1,h2,h3⟩,_⟩:=Il (s:=J) hcr hdd hy2;exact⟨Fy,h1,λi k c hi hk hF=>(by obtain⟨j,hj,_⟩:=h2 i k c hi hk hF;cases hj),h3⟩
theorem WL(ht:VLe t s.den.t){d' W:Nat}{xs:List ty.T}(u:Ub ty d' (s.ev x)=some (W,xs)):
  Sub (Ms.ev ⟨t,s.den.σ⟩ x) (.nd true true ty.w xs.length λi k=>(tyV ty W (xs.getD i ty.dflt)).getD k .dead):=by
 have J:∀v,s.ev x=some v->v.v s.r≠.dead->Ms.ev ⟨t,s.den.σ⟩ x=v.v s.r:=by
  intro v hv B;rw[<-Bh hv]at B⊢;exact(ht.ev x).resolve_right λe=>B e.1
 unfold Ub at u;split at u
 .rename_i t1 d1 Z U
  split at u
  case isFalse=>grind
  rename_i e;subst e;cases u;rw[J _ U (by intro e;cases e)]
  exact Sub.refl _
 .rename_i U
  cases u;rw[J _ U (by intro e;cases e)]
  exact .inr ⟨rfl,_,_,_,rfl⟩
 grind
theorem appO_v(hE:EOK P E){ops:Array Oper}{A:AO}(ht:VLe t s.den.t)(h:appO E ops s o=some A)(hA:A.p):
  ∃ys r,(∀p∈ys,I6 ops o p=true)/\Qt o.op=true/\LQ P E.h.n s.den.σ (AlP E.h ops o) o t ys r/\VLe (Ip o.dst r (AP ys t)) (St.den ⟨AJ (CK A.js s.t) A.d A.y,s.r⟩).t/\
   (∀i,Av ops.toList i=true->o.dst≠some i->AJ (CK A.js s.t) A.d A.y i=s.t i):=by
 unfold appO at h;split at h
 case h_2=>cases h
 rename_i ty x y d J u;have J:=Aat J;split at h
 case h_2=>cases h
 rename_i j hj;obtain⟨e,hsl,_⟩:=DH hE.Θ hj;have U:=Pf (own_le ht) [x,y];obtain⟨hb,h⟩:=Bb h;simp only[bAE]at hb;obtain⟨⟨⟨⟨h1,h2⟩,h3⟩,h4⟩,h5⟩:=hb;have h3:d<E.h.n:=blE h3;have hby:=KP h4;have hw:=KP h5
 have hmv:∀Z∈jsO ([x,y].map (Ks s)),mvB ops o Z=true:=by
  intro Z hy;split at h2
  .cases h2
  .rename_i a l e;rw[e]at hy;exact aET.1 h2 Z hy
 split at h
 case h_2=>cases h
 rename_i d' ys hys;split at h
 case h_2=>cases h
 rename_i dx xs hxs;obtain⟨hdk,h⟩:=Bb h;cases h;have hA:xs.length+ys.length<=Nb j.bytes:=hA
 have hb:(xs.length+ys.length)*j.bytes<=140737488355328:=by
  rw[Nat.mul_comm];exact(Nat.mul_comm _ _▸(Nat.le_div_iff_mul_le hby).1 hA)
 have h63:xs.length+ys.length<=maxLen:=by
  have:xs.length+ys.length<=(xs.length+ys.length)*j.bytes:=Nat.le_mul_of_pos_right _ hby;simp only[maxLen];omega
 have hx:=WL ht hxs;have ee:tyV j.ty d'=tyV j.ty dx:=funext λz=>C9 _ _ _ z (LG hdk)
 have B:=NK (N:=E.h.n) (x:=x) ht (op:=o.op) (by rw[J];simp[Op.operands,Call.operands]) hys
 rw[ee]at B;have W:=Ww (Al:=AlP E.h ops o) (P:=P) (N:=E.h.n) (σ:=s.den.σ) (t:=t) J u h3 hsl hw hx (by rw[U];exact h1) B h63 hb
 have W:=W.sub (λ_ h=>h) (λ_ _=>Sub.refl _) (LT rfl rfl (λ_ _ _=>rfl) (λ_ _ _=>rfl))
 dsimp only
 generalize hz:(bif E.h.fz.contains d then XI (Sl.one (.c (.sl j.ty) (dx+1) (Aaq xs ys)))else .one (.c (.sl j.ty) (dx+1) (Aaq xs ys)))=z
 have hlq2:∃r,LQ P E.h.n s.den.σ (AlP E.h ops o) o t ((A8 t [x,y]).map λy=>(y,.all)) r/\le1 r (z.v s.r):=by
  cases hf:E.h.fz.contains d with
  |false=>rw[hf]at hz;subst hz;exact⟨_,W,.inl rfl⟩
  |true=>rw[hf]at hz;subst hz;exact⟨_,W.frzR u h3,Aae (.one (.c (.sl j.ty) (dx+1) (Aaq xs ys))) s.r⟩
 obtain⟨r,hlr,hle⟩:=hlq2;refine⟨_,r,λp hp=>?_,by rw[J];rfl,hlr,?_,λi hn hd=>?_⟩
 .rw[CC U]at hp
  obtain⟨Z,hy,rfl⟩:=List.mem_map.1 hp;exact hmv Z hy
 .rw[u]
  show VLe (AI _ d _) (λi=>(AJ (CK _ s.t) d _ i).v s.r)
  rw[B2];exact(Aal ht U rfl).upd hle
 .show AJ (CK _ s.t) d _ i=_
  unfold AJ;rw[BI λe=>hd (by rw[u,e])]
  exact Aam hmv hn
theorem Dz{l:List Oper}(h:∀o∈g,o∈l)(e:Av l i=true):Av g i=true:=by
 unfold Av at e⊢
 grind
theorem ZX(h:le1 v v'):AL v=AL v':=by
 rcases h with e|⟨B,u⟩
 .grind
 .rw[u,B];rfl
theorem ZM(h:Qu s x=true):AL (s.den.ev x)=false:=by
 unfold Qu at h;split at h
 .rename_i y e
  rw[Bh e];have u:AL (y.v s.r)=y.own:=Sl.own_v y
  grind
 grind
theorem M9:∀{ρ:Asm}{c:Nat}{v:Bool},Xr ρ c=some v->∃j,(j,c,v)∈ρ
 |[],_,_,h=>by cases h
 |(i,d,u)::ρ,c,v,h=>by
  unfold Xr at h;cases e:Nat.beq d c with
  |true=>
   simp_all
  |false=>
   rw[e]at h;obtain⟨j,B⟩:=M9 h
   grind
theorem HC:∀{ρ:Asm}{j:Nat}{v:Bool},VB ρ j=some v->∃d,(j,d,v)∈ρ
 |[],_,_,h=>by cases h
 |(i,d,u)::ρ,j,v,h=>by
  unfold VB at h;cases e:Nat.beq i j with
  |true=>
   simp_all
  |false=>
   rw[e]at h;obtain⟨B,hd⟩:=HC h
   grind
def CM(ops:Array Oper)(ρ:Asm)(S:Nat->V):Prop:=∀x∈ρ,(ops[x.1]?).bind (·.dst)=some x.2.1/\S x.2.1=.c (.bool x.2.2)
theorem H6{ops:Array Oper}{ρ:Asm}{v:Bool}(Z:VLe t s.den.t)(J:CM ops ρ s.den.t)(h:MZ ρ s op=some v)(hK:K (.c (.bool v))):MG P s.den.σ (Ms.ev ⟨t,s.den.σ⟩) op K:=by
 unfold MZ at h;split at h
 case h_2=>cases h
 rename_i c x y;cases B:(Qu s x&&Qu s y)with
 |false=>rw[B]at h;cases h
 |true=>
 rw[B]at h;rw[bAE]at B;simp only[cond_true]at h;split at h
 case h_2=>cases h
 rename_i u hu;obtain⟨j,hj⟩:=M9 hu;obtain⟨_,hc⟩:=J _ hj;have W:t c=.c (.bool u):=by
  rcases Z c with e|e
  .rw[e];exact hc
  .rw[hc]at e;cases e.1
 have ev:∀x v,s.den.ev x=.c (.bool v)->Ms.ev ⟨t,s.den.σ⟩ x=.c (.bool v):=λx v U=>by
  rcases Z.ev (σ:=s.den.σ) x with e|e
  .rw[e];exact U
  simp_all
 have ow:=λx U=>(ZX (Z.ev (σ:=s.den.σ) x)).trans (ZM U)
 have hv:=valB_v h;show Vb (t c) (Ms.ev ⟨t,s.den.σ⟩ x) (Ms.ev ⟨t,s.den.σ⟩ y) K;rw[W];refine⟨ow x B.1,ow y B.2,λe=>?_,λe=>?_⟩
 .subst e
  rw[ev x v hv];exact hK
 grind
theorem VL(h:Z1 (s.t d)=true):s.den.t d=udV:=by
 show(s.t d).v s.r=_;unfold Z1 at h;split at h
 .rename_i e;rw[e];rfl
 grind
theorem ZC{d:Option Nat}(B:VLe t s.den.t)(h:CX E.h s d=some s'):s'.r=s.r/\(∀e,d=some e->e<E.h.n)/\(∀i,d≠some i->s'.t i=s.t i/\JW t d i=t i)/\VLe (JW t d) s'.den.t/\∀e,d=some e->AL (JW t d e)=false:=by
 unfold CX at h;split at h
 .rename_i d
  cases U:Nat.blt d E.h.n with
  |false=>grind
  |true=>
   rw[U]at h;cases h;refine⟨rfl,λe u=>by simp_all,λi J=>⟨?_,if_neg λe=>J (by grind)⟩,?_,λe u=>?_⟩
   .show AJ s.t d _ i=_
    unfold AJ;rw[BI λe=>J (by grind)];rfl
   .show VLe (AI t d udV) (λi=>(AJ s.t d (.tup []) i).v s.r)
    rw[B2];exact B.upd (.inl rfl)
   .cases u
    show AL (AI t d udV d)=false;unfold AI;rw[if_pos rfl];rfl
 .cases h
  exact⟨rfl,(λe u=>by grind),(λ_ _=>⟨rfl,rfl⟩),B,λe u=>by grind⟩
theorem setB_v{d:Option Nat}{v:Bool}{K:(Nat->V)->Prop}(J:VLe t s.den.t)(h:AaA E.h s d v=some s')(W:∀t',s'.r=s.r->(∀i,d≠some i->s'.t i=s.t i/\t' i=t i)->VLe t' s'.den.t->(∀e,d=some e->AL (t' e)=false)->K t'):QK E.h d t K (.c (.bool v)):=by
 unfold AaA at h;split at h
 case h_2=>grind
 rename_i d;cases u:(Nat.blt d E.h.n&& !E.h.fz.contains d)with
 |false=>grind
 |true=>
 rw[u]at h;rw[bAE,Bool.not_eq_true']at u;cases h;refine⟨blE u.1,?_⟩;simp only[u.2,if_false];refine W _ rfl (λi B=>⟨?_,if_neg λe=>B (by grind)⟩) ?_ λe U=>?_
 .show AJ s.t d _ i=_
  unfold AJ;rw[BI λe=>B (by grind)];rfl
 .show VLe (AI t d _) (λi=>(AJ s.t d (.one (.c .bool 0 v)) i).v s.r)
  rw[B2];exact J.upd (.inl rfl)
 .cases U
  unfold AI;rw[if_pos rfl];rfl
variable (hE:EOK P E)
include hE
theorem stepq{R:Type}{s:St}{o:Oper}{f:Sl->Option St}{K:St->Option R}{z:R}{t:Nat->V}{Kt:(Nat->V)->Prop}(W:VLe t s.den.t)(h:(YX E s o.type o.op λy=>match f y with
   |some s'=>K s'
   |none=>none)=some z) (hf:∀y s',f y=some s'->s.putX true E.h o.dst y=some s')
  (hK:∀s' t' y,s'.r=s.r->(∀i,o.dst≠some i->s'.t i=s.t i/\t' i=t i)->VLe t' s'.den.t->f y=some s'->(∀e,o.dst=some e->(y.own&& !fzD E.h o.dst)=false->AL (t' e)=false)->K s'=some z->Kt t'):qop P s.den.σ (Ms.ev ⟨t,s.den.σ⟩) o.op (QK E.h o.dst t Kt):=by
 obtain⟨hl,y,hq,U⟩:=HU hE h;split at U
 case h_2=>grind
 rename_i s' u;have Z:=hf y s' u;obtain⟨hr,e,he,hi⟩:=putH_r Z;refine qop_le W hl (MF hq λr0 J=>⟨y.v s.r,J,putH_v Z W λt' B h1 h2=>hK s' t' y hr (λi hn=>⟨hi i λh=>hn (by grind),h1 i hn⟩) B u h2 U⟩)
theorem pathg{ops:Array Oper}{z:Bool}{Kt:(Nat->V)->Prop}{B:List Oper}:∀(g:List Oper) (ρ:Asm) (s:St) (t:Nat->V) (K:Asm->St->Option Bool),CM ops ρ s.den.t->(∀x∈ρ,Av g x.2.1=true)->VLe t s.den.t->Cz E true ops g ρ s K=some z->
  (∀ρ' s' t',s'.r=s.r->(∀i,Av g i=true->s'.t i=s.t i/\t' i=t i)->(∀i,Av g i=false->AL (t' i)=false)->VLe t' s'.den.t->CM ops ρ' s'.den.t->K ρ' s'=some z->vq P E.h ops s.den.σ B Kt t')->vq P E.h ops s.den.σ (g++B) Kt t:=by
 intro g
 induction g with
 |nil=>intro ρ s t K hρ _ ht h hK;exact hK ρ s t rfl (λ_ _=>⟨rfl,rfl⟩) (λi hi=>by cases hi) ht hρ h
 |cons o g ih=>
  intro ρ s t K hρ hnd ht h hK
  have hc:∀i,Av (o::g) i=((match o.dst with
   |some e=>!Nat.beq e i
   |none=>true)&&Av g i):=λ_=>rfl
  unfold Cz at h;split at h
  case h_1=>cases h
  rename_i j J hgo;split at h
  case h_1=>cases h
  rename_i dj hdj;rw[List.cons_append]
  -- what is behind this operation
  have cont:∀(u:Asm) (s1:St) (t1:Nat->V),CM ops u s.den.t->(∀x∈u,Av (o::g) x.2.1=true)->s1.r=s.r->(∀i,o.dst≠some i->s1.t i=s.t i/\t1 i=t i)->VLe t1 s1.den.t->(∀e,o.dst=some e->AL (t1 e)=false)->Cz E true ops g u s1 K=some z->vq P E.h ops s.den.σ (g++B) Kt t1:=by
   intro u s1 t1 W Z hr hi ht1 ho h1;have hσ:s1.den.σ=s.den.σ:=by show s1.r.map Af.v=s.r.map Af.v;rw[hr]
   rw[<-hσ];refine ih u s1 t1 K (λx hx=>⟨(W x hx).1,?_⟩) (λx hx=>(AK (Z x hx)).2) ht1 h1 λρ2 s2 t2 h2 U h3' h4 h5 h6=>?_
   .show(s1.t x.2.1).v s1.r=_
    rw[(hi _ (AK (Z x hx)).1).1,hr];exact(W x hx).2
   .rw[hσ]
    refine hK ρ2 s2 t2 (h2.trans hr) (λi hn=>?_) (λi hn=>?_) h4 h5 h6
    .obtain⟨n1,n2⟩:=AK hn
     exact⟨(U i n2).1.trans (hi i n1).1,(U i n2).2.trans (hi i n1).2⟩
    .by_cases hg2:Av g i=true
     .rw[(U i hg2).2]
      rw[hc,hg2,Bool.and_true]at hn;split at hn
      .rename_i e he
       have:e=i:=bqE (by simpa using hn)
       subst this;exact ho e he
      .cases hn
     .exact h3' i (by simpa using hg2)
  have pass:∀u:Asm,CM ops u s.den.t->(∀x∈u,Av (o::g) x.2.1=true)->onS (CX E.h s o.dst) (λs'=>Cz E true ops g u s' K)=some z->(∀d,o.dst=some d->d<E.h.n)/\vq P E.h ops s.den.σ (g++B) Kt (JW t o.dst):=by
   intro u h1 h2 U;cases hp:CX E.h s o.dst with
   |none=>rw[hp]at U;cases U
   |some s1=>
    rw[hp]at U;obtain⟨q1,q2,q3,q4,q5⟩:=ZC ht hp;exact⟨q2,cont u s1 _ h1 h2 q1 q3 q4 q5 U⟩
  have step:∀u:Asm,CM ops u s.den.t->(∀x∈u,Av (o::g) x.2.1=true)->La E true u s o (λs'=>Cz E true ops g u s' K)=some z->qop P s.den.σ (Ms.ev ⟨t,s.den.σ⟩) o.op (QK E.h o.dst t (vq P E.h ops s.den.σ (g++B) Kt)):=by
   intro u h1 h2 U;unfold La at U;split at U
   .rename_i v hv
    split at U
    case h_2=>cases U
    rename_i s1 hs1;exact H6 ht h1 hv ⟨_,Sub.refl _,setB_v ht hs1 λt' q1 q2 q3 q4=>cont u s1 t' h1 h2 q1 q2 q3 q4 U⟩
   .refine stepq hE (f:=λy=>bif y.own&& !fzD E.h o.dst then none else s.putX true E.h o.dst y) (K:=λs'=>Cz E true ops g u s' K) ht U (λy s' hy=>?_) λs' t' y hr hi ht' hfy ho hy=>?_
    .cases hyo:y.own&& !fzD E.h o.dst with
     |true=>rw[hyo]at hy;cases hy
     |false=>rw[hyo]at hy;exact hy
    have hyo:(y.own&& !fzD E.h o.dst)=false:=by
     cases hyo:y.own&& !fzD E.h o.dst with
     |true=>rw[hyo]at hfy;cases hfy
     |false=>rfl
    exact cont u s' t' h1 h2 hr hi ht' (λe he=>ho e he hyo) hy
  -- what the guard yields
  have run:∀v:Bool,s.den.t dj=.c (.bool v)->gv t ops j=.c (.bool v):=λv hv=>by
   unfold gv;rw[hdj];rcases ht dj with e|e
   .rw[<-hv];exact e
   .rw[hv]at e;cases e.1
  unfold vq;rw[hgo]
  have known:∀(u:Asm) (v:Bool),s.den.t dj=.c (.bool v)->CM ops u s.den.t->(∀x∈u,Av (o::g) x.2.1=true)->(v=J->La E true u s o (λs'=>Cz E true ops g u s' K)=some z)->(v=(!J)->onS (CX E.h s o.dst) (λs'=>Cz E true ops g u s' K)=some z)->
    (match gv t ops j with
     |.c (.bool b)=>(b=J->qop P s.den.σ (Ms.ev ⟨t,s.den.σ⟩) o.op (QK E.h o.dst t (vq P E.h ops s.den.σ (g++B) Kt)))/\(b=(!J)->(∀d,o.dst=some d->d<E.h.n)/\vq P E.h ops s.den.σ (g++B) Kt (JW t o.dst))
     |v=>v=udV/\(∀d,o.dst=some d->d<E.h.n)/\vq P E.h ops s.den.σ (g++B) Kt (JW t o.dst)):=by
   intro u v hv h1 h2 U h4;rw[run v hv];exact⟨λe=>step u h1 h2 (U e),λe=>pass u h1 h2 (h4 e)⟩
  cases hu:Z1 (s.t dj)with
  |true=>
   rw[hu]at h;have hgv:gv t ops j=udV:=by
    unfold gv;rw[hdj];have hv:=VL hu;rcases ht dj with e|e
    .rw[<-hv];exact e
    .rw[hv]at e;cases e.1
   obtain⟨p1,p2⟩:=pass ρ hρ hnd h
   have hm:(match gv t ops j with
     |.c (.bool b)=>(b=J->qop P s.den.σ (Ms.ev ⟨t,s.den.σ⟩) o.op (QK E.h o.dst t (vq P E.h ops s.den.σ (g++B) Kt)))/\(b=(!J)->(∀d,o.dst=some d->d<E.h.n)/\vq P E.h ops s.den.σ (g++B) Kt (JW t o.dst))
     |v=>v=udV/\(∀d,o.dst=some d->d<E.h.n)/\vq P E.h ops s.den.σ (g++B) Kt (JW t o.dst)):=by
    rw[hgv];exact⟨rfl,p1,p2⟩
   exact hm
  |false=>
   rw[hu]at h;simp only[cond_false]at h;split at h
   .rename_i v hv
    obtain⟨d',hm⟩:=HC hv;obtain⟨e1,e2⟩:=hρ _ hm;have e1:some dj=some d':=hdj.symm.trans e1;cases e1;refine known ρ v e2 hρ hnd (λe=>?_) λe=>?_
    .subst e;simpa using h
    .subst e;cases J<;>exact h
   .split at h
    case h_2=>cases h
    rename_i dd b hb;have hbv:s.den.t dj=.c (.bool b):=by show(s.t dj).v s.r=_;rw[hb];rfl
    obtain⟨hn,h⟩:=Bb h
    have W:CM ops ((j,dj,b)::ρ) s.den.t:=λx hx=>by
     rcases List.mem_cons.1 hx with rfl|hx
     .exact⟨hdj,hbv⟩
     .exact hρ x hx
    have Z:∀x∈(j,dj,b)::ρ,Av (o::g) x.2.1=true:=λx hx=>by
     rcases List.mem_cons.1 hx with rfl|hx
     .exact hn
     .exact hnd x hx
    refine known ((j,dj,b)::ρ) b hbv W Z (λe=>?_) λe=>?_
    .subst e;cases b<;>exact h
    .subst e;cases J<;>exact h
theorem WU{ops:Array Oper}{K:St->Option R}{z:R}{Kt:(Nat->V)->Prop}:∀(l:List Seg) (s:St) (t:Nat->V),(∀o∈l.flatMap Seg.ops,o∈ops.toList)->VLe t s.den.t->
  Q4 E true ops l s K=some z->(∀s' t',s'.r=s.r->(∀i,Av ops.toList i=true->yB E ops i=false->s'.t i=s.t i)->VLe t' s'.den.t->K s'=some z->Kt t')->vq P E.h ops s.den.σ (l.flatMap Seg.ops) Kt t:=by
 intro l
 induction l with
 |nil=>intro s t _ ht h hK;exact hK s t rfl (λ_ _ _=>rfl) ht h
 |cons sg l ih=>
  intro s t hsub ht h hK;rw[List.flatMap_cons]at hsub;have Z:∀o∈sg.ops,o∈ops.toList:=λo ho=>hsub o (List.mem_append_left _ ho)
  have J:∀o∈l.flatMap Seg.ops,o∈ops.toList:=λo ho=>hsub o (List.mem_append_right _ ho)
  cases sg with
  |one o=>
   unfold Q4 at h;split at h
   case h_2=>cases h
   rename_i hg;rw[List.flatMap_cons];show vq P E.h ops s.den.σ (o::l.flatMap Seg.ops) Kt t;unfold vq;rw[hg];cases hal:alM E.h ops o with
   |true=>
    rw[hal]at h;simp only[Bool.and_self,cond_true]at h;split at h
    case h_2=>cases h
    rename_i d hd;obtain⟨hb,h⟩:=Bb h;refine .inr ⟨rfl,d,hd,blE hb,?_⟩;refine ih ⟨AJ s.t d (.one .dead),s.r⟩ _ J ?_ h λs2 t2 h2 W h3 h4=>hK s2 t2 h2 (λi B hx=>?_) h3 h4
    .show VLe _ (λi=>(AJ s.t d (.one .dead) i).v s.r)
     rw[B2];exact ht.upd (.inl rfl)
    .rw[W i B hx]
     show AJ s.t d (.one .dead) i=s.t i;unfold AJ;rw[BI λe=>(AK (o:=o) (g:=[]) (Dz (g:=[o]) (λo' ho'=>Z o' ho') B)).1 (by rw[hd,e])]
     rfl
   |false=>
   rw[hal]at h;simp only[Bool.and_false,cond_false]at h;refine .inl ⟨rfl,?_⟩;have nd:∀i,Av ops.toList i=true->o.dst≠some i:=λi B=>(AK (o:=o) (g:=[]) (Dz (g:=[o]) (λo' ho'=>Z o' ho') B)).1
   split at h
   .rename_i y u d z' hmv
    obtain⟨hdst,hdn,hfz,ys,hys,hmq,hvl,hed⟩:=mvF_v ht hmv;refine .inr (.inl ⟨ys,d,z'.v s.r,hdst,hdn,hfz,hys,hmq,?_⟩);refine ih ⟨AJ (AJ s.t y u) d z',s.r⟩ _ J hvl h λs2 t2 h2 W h3 h4=>hK s2 t2 h2 (λi B hx=>?_) h3 h4
    rw[W i B hx];have hid:i≠d:=λe=>nd i B (by rw[hdst,e])
    have hiy:i≠y:=by
     rintro rfl
     rcases hed with⟨e,he,hb,hed⟩|⟨hx1,hx2⟩
     rotate_left
     .have:yB E ops i=true:=by
       unfold yB;exact List.any_eq_true.2 ⟨o,Z o (List.mem_singleton.2 rfl),by rw[hx1,hx2];rfl⟩
      rw[hx]at this;cases this
     unfold AH at hed;rw[Option.bind_eq_some_iff]at hed;obtain⟨ok,hok,hokd⟩:=hed;have hmem:ok∈ops.toList:=by
      rw[<-Array.getElem?_toList]at hok;exact List.mem_of_getElem? hok
     exact(AK (o:=ok) (g:=[]) (Dz (g:=[ok]) (λo' ho'=>by rw[List.mem_singleton.1 ho'];exact hmem) B)).1 hokd
    show AJ (AJ s.t y u) d z' i=s.t i;unfold AJ;rw[BI hid];show(bif Nat.beq i y then _ else s.t i)=s.t i;rw[BI hiy];rfl
   split at h
   .rename_i js pu ds hlq
    obtain⟨ys,r,hys,hne,hq,hvl,hnw⟩:=lqF_v hE ht hlq (Z o (List.mem_singleton.2 rfl));refine .inr (.inr ⟨ys,r,λp hp=>.inl (hys p hp),hne,hq,?_⟩)
    refine ih ⟨Yc ds (Yc pu (CK js s.t)),s.r⟩ _ J hvl h λs2 t2 h2 W h3 h4=>hK s2 t2 h2 (λi B hx=>?_) h3 h4
    rw[W i B hx];exact hnw i B hx (nd i B)
   split at h
   .rename_i A ha
    have h: @ite _ A.p A.dec (Q4 E true ops l ⟨AJ (CK A.js s.t) A.d A.y,s.r⟩ K) none=some z:=h;by_cases hA:A.p
    case neg=>rw[if_neg hA]at h;cases h
    rw[if_pos hA]at h;obtain⟨ys,r,hys,hne,hq,hvl,hnw⟩:=appO_v hE ht ha hA;refine .inr (.inr ⟨ys,r,λp hp=>.inl (hys p hp),hne,hq,?_⟩)
    refine ih ⟨AJ (CK A.js s.t) A.d A.y,s.r⟩ _ J hvl h λs2 t2 h2 W h3 h4=>hK s2 t2 h2 (λi B hx=>?_) h3 h4
    rw[W i B hx];exact hnw i B (nd i B)
   split at h
   .rename_i A ha
    cases hu:A.o with
    |none=>rw[hu]at h;cases h
    |some u=>
    rw[hu]at h;simp only[Option.bind_some]at h;obtain⟨ys,r,hys,hne,hq,hvl,hdst,f,xs,e,zk,g1,g2,g3,g4,g5⟩:=WY hE.U ht ha hu;refine .inr (.inr ⟨ys,r,hys,hne,hq,?_⟩);refine ih ⟨AJ (AJ s.t A.y (A.u u)) A.d (A.z u),s.r⟩ _ J hvl h λs2 t2 h2 W h3 h4=>hK s2 t2 h2 (λi B hx=>?_) h3 h4
    rw[W i B hx];have hid:i≠A.d:=λe=>nd i B (by rw[hdst,e])
    have hiy:i≠A.y:=by
     rintro rfl
     have key:ucB E ops o A.y=true->False:=λhu=>by
      have:yB E ops A.y=true:=by
       unfold yB;refine List.any_eq_true.2 ⟨o,Z o (List.mem_singleton.2 rfl),?_⟩;rw[Bool.or_eq_true];exact .inr hu
      rw[hx]at this;cases this
     unfold okU at g5;unfold UR at g4;unfold ucB at key;rw[g1]at key;simp only[g2,g3]at key;cases hs:alS E.h ops o zk with
     |some y=>
      rw[hs]at g4 key;have g4:y=A.y:=g4;exact key (by rw[g4];exact Nat.beq_refl _)
     |none=>
      rw[hs]at g4 g5 key;have g4:zk=A.y:=g4;have g5:(mvB ops o zk||(dX E zk&&(mvR ops o zk||mvC ops o zk)))=true:=g5;rw[Bool.or_eq_true]at g5;rcases g5 with g5|g5
      .unfold mvB at g5
       rw[bAE]at g5;obtain⟨e1,he1,_,hed⟩:=Hc g5.2;unfold AH at hed;rw[Option.bind_eq_some_iff]at hed;obtain⟨ok,hok,hokd⟩:=hed;have hmem:ok∈ops.toList:=by
        rw[<-Array.getElem?_toList]at hok;exact List.mem_of_getElem? hok
       refine(AK (o:=ok) (g:=[]) (Dz (g:=[ok]) (λo' ho'=>by rw[List.mem_singleton.1 ho'];exact hmem) B)).1 ?_
       rw[hokd,g4]
      .rw[bAE]at g5
       exact key (by rw[g5.1,g4];exact Nat.beq_refl _)
    show AJ (AJ s.t A.y (A.u u)) A.d (A.z u) i=s.t i;unfold AJ;rw[BI hid];show(bif Nat.beq i A.y then _ else s.t i)=s.t i;rw[BI hiy];rfl
   refine .inl (stepq hE (f:=λy=>s.putX true E.h o.dst y) ht h (λ_ _ h=>h) λs' t' _ hr hi ht' _ _ hy=>?_)
   have hσ:s'.den.σ=s.den.σ:=by show s'.r.map Af.v=s.r.map Af.v;rw[hr]
   rw[<-hσ]
   exact ih s' t' J ht' hy λs2 t2 h2 W h3 h4=>hK s2 t2 (h2.trans hr) (λi B hx=>by
    rw[W i B hx,(hi i (nd i B)).1]) h3 h4
  |grp g pk=>
   unfold Q4 at h;split at h
   case h_2=>cases h
   rename_i d hpd;have hpd2:pk.dst=some d/\pk.guard=none/\d<E.h.n/\E.h.fz.contains d=false:=by
    unfold Xj at hpd;split at hpd
    case h_2=>cases hpd
    rename_i d' e1 e2;obtain⟨hb,hpd⟩:=Bb hpd;cases hpd;rw[bAE,Bool.not_eq_true']at hb;exact⟨e1,e2,blE hb.1,hb.2⟩
   obtain⟨e1,e2,h3,h4⟩:=hpd2;cases hv:grpB E true ops s g pk with
   |none=>rw[hv]at h;cases h
   |some v=>
    rw[hv]at h;simp only[Option.bind_some]at h;rw[List.flatMap_cons];show vq P E.h ops s.den.σ ((g++[pk])++l.flatMap Seg.ops) Kt t;rw[List.append_assoc];refine pathg hE g [] s t _ (λx hx=>by cases hx) (λx hx=>by cases hx) ht hv λρ' s' t' hr hi ho ht' hρ' hs'=>?_
    rw[hr,Nat.beq_refl]at hs';have hs':MZ ρ' s' pk.op=some v:=hs';have hσ:s'.den.σ=s.den.σ:=by show s'.r.map Af.v=s.r.map Af.v;rw[hr]
    show vq P E.h ops s.den.σ (pk::l.flatMap Seg.ops) Kt t';unfold vq;rw[e2];refine .inl ⟨?_,.inl ?_⟩
    .cases hal:alM E.h ops pk with
     |false=>rfl
     |true=>
      obtain⟨_,_,_,hop,_⟩:=LX hal;rw[hop]at hs';cases hs'
    rw[<-hσ];refine H6 ht' hρ' hs' ⟨_,Sub.refl _,?_⟩;rw[e1,hσ];refine⟨h3,?_⟩;simp only[h4,Bool.false_eq_true,if_false]
    refine ih ⟨AJ (CY g s.t) d (.one (.c .bool 0 v)),s.r⟩ (AI t' d (.c (.bool v))) J ?_ h λs2 t2 h2 W h3 h4=>hK s2 t2 h2 (λi hn0 hx0=>by
     have B:Av ((g++[pk])++l.flatMap Seg.ops) i=true:=Dz hsub hn0;unfold Av at B;rw[List.all_append,List.all_append,bAE,bAE]at B;rw[W i hn0 hx0];show AJ (CY g s.t) d (.one (.c .bool 0 v)) i=s.t i;have hid:i≠d:=by
      rintro rfl
      have:=B.1.2;simp only[List.all_cons,List.all_nil,Bool.and_true,e1,Nat.beq_refl,Bool.not_true]at this;cases this
     unfold AJ;rw[BI hid];show CY g s.t i=s.t i;rw[DC,if_pos (show Av g i=true from B.1.1)]) h3 h4
    show VLe _ (λi=>(AJ (CY g s.t) d (.one (.c .bool 0 v)) i).v s.r)
    rw[B2];refine VLe.upd ?_ (.inl rfl);intro i;simp only[DC];by_cases B:Av g i=true
    .rw[if_pos B,(hi i B).2];exact ht i
    .rw[if_neg B];exact .inr ⟨rfl,ho i (by simpa using B)⟩
end head
end Go.Ve

