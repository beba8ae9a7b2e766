/- The typed machine: lists of quiet operations, guards; the head of a region that draws its order. -/
import Derived.Test.YtdhfaeiafmlhlaaTg
import Derived.Test.YtdhfaeiafmlhlaaTd
set_option linter.all false
namespace Go.Ve
variable{hh:Cw}{Us:List EnU}{js:List Nat}{g:List Oper}{d i k:Nat}{t t':Nat->V}{op:Op}{o:Oper}{x:Operand}{P:Program}{y:Sl}{s s':St}{ty:Ty}{R:Type}{v v':V}{K:V->Prop}
structure Env where
 Θ:Tab
 Γ:List En
 W:List EnW
 N:List EnN
 h:Cw
 U:List EnU
variable{E:Env}
def IQ:Op->Option (FuncId×Array Operand)
 |.call c=>match c.callee with
  |.value (.func f)=>some (f,c.args)
  |_=>none
 |_=>none
def Cl.live:Cl->Bool
 |.dead=>false
 |.c (.osl _) _ _=>false
 |.c t _ _=>t.one
 |_=>true
def AcI:Option Sl->Bool
 |some (.one y)=>y.live
 |some _=>true
 |none=>false
theorem live_v(h:AcI (s.ev x)=true):s.den.ev x≠.dead:=by
 unfold AcI at h;split at h
 .rename_i y e
  rw[A7 e];cases y with
  |c t d x=>
   cases t<;>first|(intro B;trivial)|rfl
  |dead=>cases h
  |_=>intro B;trivial
 .rename_i y F e
  rw[A7 e];cases y with
  |one c=>grind
  |_=>intro B;trivial
 grind
def St.liveX(s:St):Operand->Bool
 |.func _=>true
 |x=>AcI (s.ev x)
theorem X4(h:s.liveX x=true):s.den.ev x≠.dead:=by
 cases x with
 |func f=>
  intro e;have e:fnV f=.dead:=e;unfold fnV at e
  grind
 |_=>exact live_v h
def AbO{R:Type}(E:Env)(s:St)(ty:TypeId)(op:Op)(K:Sl->Option R):Option R:=bif op.operands.toList.all s.liveX then(match IQ op with
 |some (f,xs)=>match JJ E.Γ s f (xs.toList.map s.ev)with
  |some a=>IE a.o λz=>K (a.y z)
  |none=>match W5 E.N s f (xs.toList.map s.ev)with
   |some a=>IE a.o λz=>Ph z.1 (K (a.y true z.2)) (K (a.y false z.2))
   |none=>none
 |none=>match cloF s op with
  |some (g,ys)=>match JJ E.Γ s g (ys.map some)with
   |some a=>IE a.o λz=>K (a.y z)
   |none=>none
  |none=>match cloI E.Θ s op with
  |some (g,ys)=>match JJ E.Γ s g (ys.map some)with
   |some a=>IE a.o λz=>K (a.y z)
   |none=>none
  |none=>match tq E.Θ s ty op with
   |some (.ok y)=>K y
   |some (.cnd p dec y)=>oif p dec (K y)
   |none=>none)else none
structure EOK(P:Program)(E:Env):Prop where
 Θ:E.Θ.OK P
 Γ:KU P E.Γ
 W:∀e∈E.W,e.OK P
 N:∀e∈E.N,e.OK P
 U:∀e∈E.U,e.OK P
theorem Il(hE:EOK P E){ty:TypeId}{K:Sl->Option R}{z:R}(h:AbO E s ty op K=some z):(∀x∈op.operands,s.den.ev x≠.dead)/\∃y,QS P s op y/\K y=some z:=by
 unfold AbO at h;obtain⟨hl,h⟩:=A9 h;refine⟨λx Z=>X4 (aET.1 hl x (by simpa using Z)),?_⟩
 split at h
 .rename_i f xs B
  split at h
  case h_2=>
   split at h
   case h_2=>cases h
   rename_i a F;cases e:a.o with
   |none=>rw[e]at h;cases h
   |some u=>
    rw[e]at h;obtain⟨b,u⟩:=u;refine⟨a.y b u,?_,by cases b<;>exact h⟩
    unfold IQ at B;split at B
    case h_2=>cases B
    rename_i c;obtain⟨callee,args,Y⟩:=c;split at B
    case h_2=>cases B
    rename_i W J;have J:callee=.value (.func W):=J;subst J;cases B;exact NT hE.N F e
  rename_i a F;cases e:a.o with
  |none=>rw[e]at h;cases h
  |some u=>
   rw[e]at h;refine⟨a.y u,?_,h⟩;unfold IQ at B;split at B
   case h_2=>cases B
   rename_i c;obtain⟨callee,args,Y⟩:=c;split at B
   case h_2=>cases B
   rename_i W J;have J:callee=.value (.func W):=J;subst J;cases B;exact PH hE.Γ F e
 .split at h
  .rename_i g ys U
   split at h
   case h_2=>cases h
   rename_i a F;cases e:a.o with
   |none=>rw[e]at h;cases h
   |some u=>
    rw[e]at h;exact⟨a.y u,Wd hE.Γ U F e,h⟩
  split at h
  .rename_i g ys U
   split at h
   case h_2=>cases h
   rename_i a F;cases e:a.o with
   |none=>rw[e]at h;cases h
   |some u=>
    rw[e]at h;exact⟨a.y u,Wc hE.Θ hE.Γ U F e,h⟩
  split at h
  .rename_i y F
   exact⟨y,QH hE.Θ F trivial,h⟩
  .rename_i p dec y F
   have h: @ite _ p dec (K y) none=some z:=h;by_cases O:p
   .rw[if_pos O]at h
    exact⟨y,QH hE.Θ F O,h⟩
   .rw[if_neg O]at h;cases h
  .cases h
def St.putH(h:Cw)(s:St)(d:Option Nat)(y:Sl):Option St:=match d with
 |none=>none
 |some d=>bif Nat.blt d h.n then(bif h.fz.contains d then(match y.frz with
   |some e=>some ⟨AK s.t d e,s.r⟩
   |none=>none)else some ⟨AK s.t d y,s.r⟩)else none
def St.putX(hd:Bool)(h:Cw)(s:St)(d:Option Nat)(y:Sl):Option St:=bif hd then s.putH h d y else s.put h d y
inductive Seg where
 |one (o:Oper)
 |grp (g:List Oper) (pk:Oper)
def Seg.ops:Seg->List Oper
 |.one o=>[o]
 |.grp g pk=>g++[pk]
def U5:List Oper->List Oper×List Oper
 |[]=>([],[])
 |o::l=>bif o.guard.isSome then(o::(U5 l).1,(U5 l).2)else([],o::l)
def Y9:Nat->List Oper->List Seg
 |0,l=>l.map .one
 |_+1,[]=>[]
 |n+1,o::l=>match o.guard with
  |none=>.one o::Y9 n l
  |some _=>match U5 l with
   |(g,pk::rest)=>.grp (o::g) pk::Y9 n rest
   |(_,[])=>(o::l).map .one
def NM:∀l,(U5 l).1++(U5 l).2=l
 |[]=>rfl
 |o::l=>by
  unfold U5;cases e:o.guard.isSome with
  |true=>simp[NM l]
  |false=>rfl
def MW:∀l:List Oper,(l.map Seg.one).flatMap Seg.ops=l
 |[]=>rfl
 |o::l=>by rw[List.map_cons,List.flatMap_cons,MW l];rfl
def Cm:∀(n:Nat) (l:List Oper),(Y9 n l).flatMap Seg.ops=l
 |0,l=>MW l
 |n+1,[]=>rfl
 |n+1,o::l=>by
  unfold Y9;split
  .rw[List.flatMap_cons,Cm n l];rfl
  .split
   .rename_i g pk e B
    rw[List.flatMap_cons,Cm n e];have:=NM l;rw[B]at this;rw[<-this];simp[Seg.ops]
   .exact MW _
def valB(s:St)(x:Operand):Option Bool:=match s.ev x with
 |some (.one (.c .bool _ b))=>some b
 |_=>none
theorem valB_v{b:Bool}(h:valB s x=some b):s.den.ev x=.c (.bool b):=by
 unfold valB at h;split at h
 .rename_i d B e
  cases h;rw[A7 e];rfl
 grind
def C5:List Oper->(Nat->Sl)->Nat->Sl
 |[],t=>t
 |o::l,t=>match o.dst with
  |some d=>C5 l (AK t d (.one .dead))
  |none=>C5 l t
def Aq(g:List Oper)(d:Nat):Bool:=g.all λo=>match o.dst with
 |some e=>!Nat.beq e d
 |none=>true
abbrev Asm:=List (Nat×Nat×Bool)
def X2:Asm->Nat->Option Bool
 |[],_=>none
 |(i,_,v)::ρ,j=>bif Nat.beq i j then some v else X2 ρ j
def Z2:Asm->Nat->Option Bool
 |[],_=>none
 |(_,d,v)::ρ,c=>bif Nat.beq d c then some v else Z2 ρ c
def AcQ:Sl->Bool
 |.tup []=>true
 |_=>false
def VM(s:St)(x:Operand):Bool:=match s.ev x with
 |some y=>!y.own
 |none=>false
def Oy(ρ:Asm)(s:St):Op->Option Bool
 |.pick (.tmp c) x y=>bif VM s x&&VM s y then(match Z2 ρ c with
  |some v=>valB s (bif v then x else y)
  |none=>none)else none
 |_=>none
def Adp(h:Cw)(s:St)(d:Option Nat)(v:Bool):Option St:=match d with
 |some d=>bif Nat.blt d h.n&& !h.fz.contains d then some ⟨AK s.t d (.one (.c .bool 0 v)),s.r⟩else none
 |none=>none
def C3(h:Cw)(s:St)(d:Option Nat):Option St:=match d with
 |some d=>bif Nat.blt d h.n then some ⟨AK s.t d (.tup []),s.r⟩else none
 |none=>some s
def fzD(h:Cw):Option Nat->Bool
 |some d=>h.fz.contains d
 |none=>false
def ME(E:Env)(hd:Bool)(ρ:Asm)(s:St)(o:Oper)(K:St->Option Bool):Option Bool:=match Oy ρ s o.op with
 |some v=>match Adp E.h s o.dst v with
  |some s'=>K s'
  |none=>none
 |none=>AbO E s o.type o.op λy=>match(bif y.own&& !fzD E.h o.dst then none else s.putX hd E.h o.dst y)with
  |some s'=>K s'
  |none=>none
def onS(o:Option St)(K:St->Option Bool):Option Bool:=match o with
 |some s=>K s
 |none=>none
def Cy(E:Env)(hd:Bool)(ops:Array Oper):List Oper->Asm->St->(Asm->St->Option Bool)->Option Bool
 |[],ρ,s,K=>K ρ s
 |o::l,ρ,s,K=>match o.guard with
  |none=>none
  |some (j,want)=>match(ops[j]?).bind (·.dst)with
   |none=>none
   |some e=>bif AcQ (s.t e)then onS (C3 E.h s o.dst) (λs'=>Cy E hd ops l ρ s' K)else match X2 ρ j with
    |some v=>bif v==want then ME E hd ρ s o (λs'=>Cy E hd ops l ρ s' K)else onS (C3 E.h s o.dst) (λs'=>Cy E hd ops l ρ s' K)
    |none=>match s.t e with
     |.one (.c .bool _ b)=>bif Aq (o::l) e then
      Ph b (bif want then ME E hd ((j,e,true)::ρ) s o (λs'=>Cy E hd ops l ((j,e,true)::ρ) s' K)else onS (C3 E.h s o.dst) (λs'=>Cy E hd ops l ((j,e,true)::ρ) s' K))
       (bif want then onS (C3 E.h s o.dst) (λs'=>Cy E hd ops l ((j,e,false)::ρ) s' K)else ME E hd ((j,e,false)::ρ) s o (λs'=>Cy E hd ops l ((j,e,false)::ρ) s' K))else none
     |_=>none
def grpB(E:Env)(hd:Bool)(ops:Array Oper)(s:St)(g:List Oper)(pk:Oper):Option Bool:=
 Cy E hd ops g [] s λρ s'=>bif Nat.beq s'.r.length s.r.length then Oy ρ s' pk.op else none
def ZT(h:Cw)(pk:Oper):Option Nat:=match pk.dst,pk.guard with
 |some d,none=>bif Nat.blt d h.n&& !h.fz.contains d then some d else none
 |_,_=>none
def partS:Bool×List Cl->Option Sl
 |(true,m)=>some (.agg m)
 |(false,y::_)=>some (.one y)
 |(false,[])=>none
def hdS:Sl->Sl
 |.one (.c (.sl _) (_+1) xs)=>.one (.c (.sl .unit) 0 (AaZ (HZ xs) ()))
 |.one (.c (.osl _) (_+1) x)=>match x with
  |some xs=>.one (.c (.sl .unit) 0 (AaZ (HZ xs) ()))
  |none=>.one .dead
 |_=>.one .dead
theorem hdS_v(r:List Ab)(y:Sl):hdV (y.v r)=(hdS y).v r:=by
 cases y with
 |one c=>
  cases c with
  |c t d x=>
   cases t with
   |sl t=>
    cases d with
    |zero=>rfl
    |succ d=>
     show V.nd true false 0 x.length (λ_ _=>.dead)=V.nd true false 0 (List.replicate x.length ()).length λi k=>([].getD k .dead)
     simp
   |ptr t=>rfl
   |osl t=>
    cases d with
    |zero=>cases x<;>rfl
    |succ d=>
     cases x with
     |none=>rfl
     |some x=>
      show V.nd true false 0 x.length (λ_ _=>.dead)=V.nd true false 0 (List.replicate x.length ()).length λi k=>([].getD k .dead)
      simp
   |_=>rfl
  |_=>rfl
 |_=>rfl
def dX(E:Env)(y:Nat):Bool:=E.h.fz.contains (y+1000000)
def J9(o:Oper)(y:Nat):Bool:=match o.op with
 |.assign (.tmp z)=>Nat.beq z y
 |.move (.tmp z)=>Nat.beq z y
 |_=>false
def stB(o:Oper)(y:Nat):Bool:=match o.op with
 |.store _ (.tmp z) _=>Nat.beq z y
 |_=>false
def alS(h:Cw)(ops:Array Oper)(o:Oper)(z:Nat):Option Nat:=o.after.toList.findSome? λe=>bif Region.binds .any e then(match ops[e.on]? with
 |some c=>bif alM h ops c then(match c.op,c.dst with
  |.move (.tmp y),some z'=>bif Nat.beq z' z then some y else none
  |_,_=>none)else none
 |none=>none)else none
theorem alS_v{h:Cw}{ops:Array Oper}{z y:Nat}(Y:alS h ops o z=some y):AlP h ops o z y:=by
 obtain⟨e,he,B⟩:=List.exists_of_findSome?_eq_some Y;cases O:Region.binds .any e with
 |false=>grind
 |true=>
  rw[O]at B;split at B
  case h_2=>grind
  rename_i c Z;cases F:alM h ops c with
  |false=>grind
  |true=>
   rw[F]at B;split at B
   case h_2=>cases B
   rename_i y' U J hd;cases W:Nat.beq U z with
   |false=>grind
   |true=>
    rw[W]at B;cases B;exact⟨e,by grind,O,c,Z,F,J,by simp_all⟩
def Xb(h:Cw)(ops:Array Oper)(o:Oper)(z:Nat):Nat:=match alS h ops o z with
 |some y=>y
 |none=>z
def okU(h:Cw)(e:Nat->Bool)(ops:Array Oper)(o:Oper)(z:Nat):Bool:=match alS h ops o z with
 |some y=>U6 h ops o (y,.put .dead)
 |none=>mvB ops o z||(e z&&(mvR ops o z||mvC ops o z))
def ucB(E:Env)(ops:Array Oper)(o:Oper)(y:Nat):Bool:=match IQ o.op with
 |some (f,xs)=>match Ke E.U f with
  |some e=>match xs.toList[e.S.k]? with
   |some (.tmp z)=>match alS E.h ops o z with
    |some B=>Nat.beq B y
    |none=>dX E z&&Nat.beq z y
   |_=>false
  |none=>false
 |none=>false
def yB(E:Env)(ops:Array Oper)(y:Nat):Bool:=ops.toList.any λo=>(dX E y&&(J9 o y||stB o y))||ucB E ops o y
def mvF(E:Env)(ops:Array Oper)(s:St)(o:Oper):Option (Nat×Sl×Nat×Sl):=match o.op,o.dst with
 |.assign (.tmp y),some d=>bif(s.t y).own&&Nat.blt d E.h.n&& !E.h.fz.contains d&&(mvB ops o y||(dX E y&&mvR ops o y))then some (y,hdS (s.t y),d,s.t y)else none
 |.move (.tmp y),some d=>bif(s.t y).own&&Nat.blt d E.h.n&& !E.h.fz.contains d&&(mvB ops o y||(dX E y&&mvR ops o y))then some (y,hdS (s.t y),d,s.t y)else none
 |.extract (.tmp y) c,some d=>match s.t y with
  |.tup l=>match l[c]? with
   |some q=>match partS q with
    |some z=>bif z.own&&Nat.blt d E.h.n&& !E.h.fz.contains d&&exB ops o y c then some (y,.tup (l.set c (false,[])),d,z)else none
    |none=>none
   |none=>none
  |_=>none
 |_,_=>none
def notT(p:Nat):Operand->Bool
 |.tmp y=>!Nat.beq y p
 |_=>true
def newC:Sl->Option (List Cl)
 |.new lp=>some lp
 |.one (.c (.ptr u) (d+1) z)=>some (As u d z)
 |_=>none
theorem newC_v{lp:List Cl}(h:newC y=some lp)(r:List Ab):y.v r=Be true (lp.map Cl.v0):=by
 unfold newC at h;split at h
 .cases h;rfl
 .rename_i u d z
  cases h;show Be (decide (0<d+1)) (tyV u (d+1-1) z)=_;rw[BK,dT (Nat.succ_pos _)];rfl
 .cases h
def lqF(E:Env)(ops:Array Oper)(s:St)(o:Oper):Option (List Nat×Option (Nat×Sl)×Option (Nat×Sl)):=match o.op,o.dst with
 |.build t ps,some d=>bif CZ ((ps.toList.map (·.2)).map (LF s))&&(match jsO ((ps.toList.map (·.2)).map (LF s))with
   |[]=>false
   |a::l=>(a::l).all (mvB ops o))&&Nat.blt d E.h.n then(match E.Θ.look t with
    |some i=>bif i.agg then(match NQ (λk=>i.places[k]?) (Ii i.ty) (ps.toList.map λp=>(p.1,s.ev p.2))with
     |some l=>some (jsO ((ps.toList.map (·.2)).map (LF s)),none,some (d,.agg (bif E.h.fz.contains (2000000+d)then VK (As i.ty 0 i.ty.dflt) l else l)))
     |none=>none)else none
    |none=>none)else none
 |.buildSlice t n ps,some d=>bif CZ ((ps.toList.map (·.2)).map (LF s))&&(match jsO ((ps.toList.map (·.2)).map (LF s))with
   |[]=>false
   |a::l=>(a::l).all (mvB ops o))&&Nat.blt d E.h.n then(match((E.Θ.look t).bind (·.elem)).bind E.Θ.look with
    |some j=>bif Nat.blt 0 j.ty.w&&Nat.ble (n*j.ty.w) 16777216 then(match NQ (λi=>some (i*j.ty.w,j.ty.w)) (Acm n (Ii j.ty)) (ps.toList.map λp=>(p.1,s.ev p.2))with
     |some l=>bif l.all Cl.keep then(match OB j.ty j.sd n (l.map (fit j.sd))with
      |some xs=>some (jsO ((ps.toList.map (·.2)).map (LF s)),none,some (d,.one (.c (.sl j.ty) (j.sd+1) xs)))
      |none=>none)else none
     |none=>none)else none
    |none=>none)else none
 |.store t (.tmp p) x,none=>match newC (s.t p),(s.ev x).bind Sl.cellsO,E.Θ.look t with
  |some lp,some l,some i=>bif(mvB ops o p||(dX E p&&mvR ops o p))&&Nat.blt p E.h.n&&Nat.beq lp.length i.ty.w&&Nat.beq l.length i.ty.w&&l.all Cl.keep&&(jsO ([x].map (LF s))).all (mvB ops o)&&notT p x then some (jsO ([x].map (LF s)),some (p,.new (VK lp l)),none)else none
  |_,_,_=>none
 |_,_=>none
def YQ:Op->Option (TypeId×Operand×Operand)
 |.call c=>match c.callee,c.args.toList,c.argTypes.toList with
  |.builtin .append,[x,y],[t,t']=>bif Nat.beq t t' then some (t,x,y)else none
  |_,_,_=>none
 |_=>none
theorem list2{α:Type}{xs:Array α}{x y:α}(h:xs.toList=[x,y]):xs= #[x,y]:=by grind
theorem Adg{t:TypeId}{y:Operand}(h:YQ op=some (t,x,y)):op=.call ⟨.builtin .append,#[x,y],#[t,t]⟩:=by
 unfold YQ at h;split at h
 case h_2=>grind
 rename_i c;obtain⟨callee,args,J⟩:=c;simp at h;split at h
 case h_2=>grind
 rename_i U O t1 t2 F e;cases B:Nat.beq t1 t2 with
 |false=>grind
 |true=>
  rw[B]at h;cases h;have:=bqE B;subst this;rw[list2 F,list2 e]
def Ww(t:Ty)(e:Nat):Option Sl->Option (Nat×List t.T)
 |some (.one (.c (.sl t') (d+1) xs))=>if h:t'=t then some (d,h▸xs)else none
 |some (.one .nil)=>some (e,[])
 |_=>none
def Wv(s:St)(t:Ty):Option Sl->Option (Nat×List t.T)
 |some (.one (.c (.sl t') (d+1) ys))=>if h:t'=t then(bif t.noO then some (d,h▸ys)else none)else none
 |y=>match Wh s t s.r.length y with
  |some (d,ys,[])=>some (d,ys)
  |_=>none
structure AO where
 p:Prop
 dec:Decidable p
 js:List Nat
 d:Nat
 y:Sl
def le1(v v':V):Prop:=v=v'\/(v'=.dead/\AM v=false)
def Aan(y:Sl):Sl:=match y.frz with
 |some z=>z
 |none=>.one .dead
theorem Ac3(y:Sl)(r:List Ab):le1 (Go.Ve.frz (y.v r)) ((Aan y).v r):=by
 have B:∀v,AM (Go.Ve.frz v)=false:=by
  intro v
  induction v with
  |many t n f J=>show((List.range n).any λk=>AM (Go.Ve.frz (f k)))=false;grind
  |nd=>rfl
  |_=>rfl
 unfold Aan;cases e:y.frz with
 |none=>exact .inr ⟨rfl,B _⟩
 |some F=>exact .inl (Sl.frz_v e)
def appO(E:Env)(ops:Array Oper)(s:St)(o:Oper):Option AO:=match YQ o.op,o.dst with
 |some (t,x,y),some d=>(match((E.Θ.look t).bind (·.elem)).bind E.Θ.look with
  |some i=>bif CZ ([x,y].map (LF s))&&(match jsO ([x,y].map (LF s))with
    |[]=>false
    |a::l=>(a::l).all (mvB ops o))&&Nat.blt d E.h.n&&Nat.blt 0 i.bytes&&Nat.blt 0 i.ty.w then(match Wv s i.ty (s.ev y)with
   |some (d',ys)=>match Ww i.ty d' (s.ev x)with
    |some (dx,xs)=>bif dOK i.ty d' dx then some ⟨HZ xs+HZ ys<=OM i.bytes,inferInstance,jsO ([x,y].map (LF s)),d,(bif E.h.fz.contains d then Aan (.one (.c (.sl i.ty) (dx+1) (Adf xs ys)))else .one (.c (.sl i.ty) (dx+1) (Adf xs ys)))⟩else none
    |none=>none
   |none=>none)else none
  |none=>none)
 |_,_=>none
structure UX where
 α:Type
 o:Option α
 y:Nat
 d:Nat
 u:α->Sl
 z:α->Sl
variable{A:UX}
def Mw(h:Cw)(B:Nat->Bool)(sl:Nat->Nat)(Us:List EnU)(s:St)(o:Oper):Option UX:=match IQ o.op,o.dst with
 |some (f,xs),some d=>match Ke Us f with
  |some e=>match xs.toList[e.S.k]? with
   |some (.tmp z)=>match s.t (sl z)with
    |.one (.c t dd x)=>if ht:t=e.S.t then
      bif Nat.beq dd e.S.d&&Nat.blt d h.n&&Nat.blt (sl z) h.n&& !Nat.beq (sl z) d&&B z&&DB e.S.rs&&((CG e.S.k xs.toList).map s.ev).all uok&&(CG e.S.k xs.toList).all s.liveX then
       (match Hd s e.S.ps ((CG e.S.k xs.toList).map s.ev)with
       |some F=>some ⟨(RT e.S.rs).T×e.S.t.T,Ph (bif e.S.eat then true else AcY e.S.t (ht▸x)) (e.g F (ht▸x)) none,sl z,d,λu=>bif e.S.eat then .one .dead else .one (.c e.S.t e.S.d u.2),λu=>bif h.fz.contains d then Aan (NA true e.S.rs u.1)else NA true e.S.rs u.1⟩
       |none=>none)else none
     else none
    |_=>none
   |_=>none
  |none=>none
 |_,_=>none
def AaO(h:Cw)(e:Nat->Bool)(Us:List EnU)(ops:Array Oper)(s:St)(o:Oper):Option UX:=Mw h (okU h e ops o) (Xb h ops o) Us s o
def AaV:Option (Nat×Sl)->(Nat->Sl)->Nat->Sl
 |some (d,y),t=>AK t d y
 |none,t=>t
def Wn{R:Type}(E:Env)(hd:Bool)(ops:Array Oper):List Seg->St->(St->Option R)->Option R
 |[],s,K=>K s
 |.one o::l,s,K=>match o.guard with
  |none=>bif hd&&alM E.h ops o then(match o.dst with
   |some d=>bif Nat.blt d E.h.n then Wn E hd ops l ⟨AK s.t d (.one .dead),s.r⟩ K else none
   |none=>none)else match mvF E ops s o with
   |some (y,u,d,z)=>Wn E hd ops l ⟨AK (AK s.t y u) d z,s.r⟩ K
   |none=>match(bif hd then lqF E ops s o else none)with
    |some (js,pu,ds)=>Wn E hd ops l ⟨AaV ds (AaV pu (CI js s.t)),s.r⟩ K
    |none=>match(bif hd then appO E ops s o else none)with
     |some A=>oif A.p A.dec (Wn E hd ops l ⟨AK (CI A.js s.t) A.d A.y,s.r⟩ K)
     |none=>match(bif hd then AaO E.h (dX E) E.U ops s o else none)with
      |some A=>IE A.o λu=>Wn E hd ops l ⟨AK (AK s.t A.y (A.u u)) A.d (A.z u),s.r⟩ K
      |none=>AbO E s o.type o.op λy=>match s.putX hd E.h o.dst y with
       |some s'=>Wn E hd ops l s' K
       |none=>none
  |some _=>none
 |.grp g pk::l,s,K=>match ZT E.h pk with
  |some d=>IE (grpB E hd ops s g pk) λv=>Wn E hd ops l ⟨AK (C5 g s.t) d (.one (.c .bool 0 v)),s.r⟩ K
  |none=>none
theorem BB{a b:Nat}(h:a≠b):Nat.beq a b=false:=by
 cases e:Nat.beq a b with
 |false=>rfl
 |true=>simp_all
theorem DV:∀(g:List Oper) (t:Nat->Sl) (i:Nat),C5 g t i=if Aq g i then t i else .one .dead
 |[],t,i=>rfl
 |o::g,t,i=>by
  have F:Aq (o::g) i=((match o.dst with
   |some e=>!Nat.beq e i
   |none=>true)&&Aq g i):=rfl
  rw[F];unfold C5;cases hd:o.dst with
  |none=>
   exact DV g t i
  |some d=>
   simp;rw[DV g];by_cases B:d=i
   .subst B
    simp[AK]
   .have O:=BB B
    have J:=BB (Ne.symm B);simp[AK,O,J]
def VLe(t t':Nat->V):Prop:=∀i,le1 (t i) (t' i)
def VLe.refl(t:Nat->V):VLe t t:=λ_=>.inl rfl
theorem VLe.upd(h:VLe t t')(e:le1 v v'):VLe (AF t d v) (AF t' d v'):=by
 intro i;unfold AF;split
 .grind
 .exact h i
theorem VLe.ev{t t':Nat->V}{σ:List V}(h:VLe t t')(x:Operand):le1 (Ms.ev ⟨t,σ⟩ x) (Ms.ev ⟨t',σ⟩ x):=by
 cases x with
 |tmp i=>exact h i
 |_=>exact .inl rfl
def qop_le{σ:List V}(h:VLe t t')(J:∀x∈op.operands,Ms.ev ⟨t',σ⟩ x≠.dead)(F:Oc P σ (Ms.ev ⟨t',σ⟩) op K):Oc P σ (Ms.ev ⟨t,σ⟩) op K:=
 Ls (λx B=>((h.ev x).resolve_right λe=>J x B e.1).symm) F
section head
variable {P:Program}{E:Env}
theorem putH_v{d:Option Nat}{K:(Nat->V)->Prop}(B:s.putH E.h d y=some s')(U:VLe t s.den.t)(hK:∀t',VLe t' s'.den.t->(∀i,d≠some i->t' i=t i)->(∀e,d=some e->(y.own&& !fzD E.h d)=false->AM (t' e)=false)->K t'):QK E.h d t K (y.v s.r):=by
 unfold St.putH at B;split at B
 .cases B
 .rename_i d
  obtain⟨hb,B⟩:=A9 B
  have O:∀v:V,AM (frz v)=false:=by
   intro v
   induction v with
   |many t n f Z=>show((List.range n).any λk=>AM (frz (f k)))=false;rw[List.any_eq_false];intro k _;rw[Z k];simp
   |nd=>rfl
   |_=>rfl
  refine⟨blE hb,hK _ ?_ (λi hi=>if_neg λe=>hi (by rw[e])) λe he J=>?_⟩
  rotate_left
  .cases he
   unfold AF;rw[if_pos rfl];split
   .exact O _
   .rename_i F
    rw[Sl.own_v];have F:E.h.fz.contains d=false:=by simpa using F
    have J:(y.own&& !E.h.fz.contains d)=false:=J;rw[F]at J;simpa using J
  cases W:E.h.fz.contains d with
  |true=>
   rw[W]at B;simp only[cond_true]at B;split at B
   .rename_i Y hy
    cases B;simp only[if_true];rw[Sl.frz_v hy];show VLe _ (λi=>(AK s.t d Y i).v s.r)
    rw[B2];exact U.upd (.inl rfl)
   .cases B
  |false=>
   rw[W]at B;simp only[cond_false,Option.some.injEq]at B;subst B;show VLe _ (λi=>(AK s.t d y i).v s.r)
   rw[B2];exact U.upd (.inl rfl)
theorem putH_r{d:Option Nat}(B:s.putH E.h d y=some s'):s'.r=s.r/\∃e,d=some e/\∀i,i≠e->s'.t i=s.t i:=by
 unfold St.putH at B;split at B
 .cases B
 .rename_i d
  have key:∀F,∀i,i≠d->AK s.t d F i=s.t i:=λF i hi=>by
   unfold AK;cases U:Nat.beq i d with
   |false=>rfl
   |true=>simp_all
  cases O:Nat.blt d E.h.n with
  |false=>grind
  |true=>
   rw[O]at B;simp only[cond_true]at B;cases J:E.h.fz.contains d with
   |true=>
    rw[J]at B;split at B
    .cases B;grind
    grind
   |false=>
    rw[J]at B;simp[cond_false,Option.some.injEq]at B;subst B
    grind
theorem AN(h:Aq (o::g) d=true):o.dst≠some d/\Aq g d=true:=by
 have B:Aq (o::g) d=((match o.dst with
  |some e=>!Nat.beq e d
  |none=>true)&&Aq g d):=rfl
 rw[B,bAE]at h;refine⟨λhd=>?_,h.2⟩
 simp_all
theorem Yr{l:List V}{c:Nat}:(l.set c .dead).getD k .dead=if k=c then .dead else l.getD k .dead:=by grind
theorem mvF_v{ops:Array Oper}{y:Nat}{u z:Sl}(ht:VLe t s.den.t)(h:mvF E ops s o=some (y,u,d,z)):
  o.dst=some d/\d<E.h.n/\E.h.fz.contains d=false/\∃ys,(∀p∈ys,JH ops o p=true)/\mq t o ys (z.v s.r)/\VLe (AF (AR ys t) d (z.v s.r)) (St.den ⟨AK (AK s.t y u) d z,s.r⟩).t/\
   ((∃e∈o.after,Region.binds .any e=true/\AG ops e.on=some y)\/(dX E y=true/\J9 o y=true)):=by
 have own:∀y,(s.t y).own=true->t y=s.den.t y:=by
  intro y hy;rcases ht y with e|e
  .exact e
  .have h5:AM (s.den.t y)=(s.t y).own:=Sl.own_v (s.t y)
   rw[e.1,hy]at h5;cases h5
 have Y:∀ys (V0:V),(∀x,AR ys t x=if x=y then V0 else t x)->le1 V0 (u.v s.r)->VLe (AF (AR ys t) d (z.v s.r)) (St.den ⟨AK (AK s.t y u) d z,s.r⟩).t:=by
  intro ys V0 hk hu;show VLe _ (λi=>(AK (AK s.t y u) d z i).v s.r)
  rw[B2];refine VLe.upd ?_ (.inl rfl);rw[B2];intro i;rw[hk];unfold AF;split
  .exact hu
  .exact ht i
 have kM:∀(y:Nat) (Z:Tk) x,AR [(y,Z)] t x=if x=y then kapp Z (t y)else t x:=by
  intro y Z x;unfold AR;by_cases hx:x=y
  .subst hx
   rw[if_pos rfl];show Ih (if x=x then some Z else none) _=_
   rw[if_pos rfl];rfl
  .rw[if_neg hx]
   show Ih (if y=x then some Z else none) _=_
   rw[if_neg (Ne.symm hx)];rfl
 have edge:∀y,mvB ops o y=true->∃e∈o.after,Region.binds .any e=true/\AG ops e.on=some y:=by
  intro y hy;unfold mvB at hy;rw[bAE]at hy;exact Hs hy.2
 have O:∀(B W:Nat),(o.op=.assign (.tmp B)\/o.op=.move (.tmp B))->o.dst=some W->(bif(s.t B).own&&Nat.blt W E.h.n&& !E.h.fz.contains W&&(mvB ops o B||(dX E B&&mvR ops o B))then some (B,hdS (s.t B),W,s.t B)else none)=some (y,u,d,z)->
   o.dst=some d/\d<E.h.n/\E.h.fz.contains d=false/\∃ys,(∀p∈ys,JH ops o p=true)/\mq t o ys (z.v s.r)/\VLe (AF (AR ys t) d (z.v s.r)) (St.den ⟨AK (AK s.t y u) d z,s.r⟩).t/\
   ((∃e∈o.after,Region.binds .any e=true/\AG ops e.on=some y)\/(dX E y=true/\J9 o y=true)):=by
  intro B W F J h;obtain⟨hb,h⟩:=A9 h;simp only[cond_true,Option.some.injEq,Prod.mk.injEq]at h;obtain⟨rfl,rfl,rfl,rfl⟩:=h;simp only[bAE,Bool.not_eq_true']at hb;obtain⟨⟨⟨h1,h2⟩,h3⟩,h4⟩:=hb
  exact⟨J,blE h2,h3,[(B,.put (hdV ((s.t B).v s.r)))],λp hp=>by
   rw[List.mem_singleton.1 hp];show(mvB ops o B||mvR ops o B||mvC ops o B)=true;refine Bool.or_eq_true _ _▸ .inl (show(mvB ops o B||mvR ops o B)=true from ?_)
   rw[Bool.or_eq_true]at h4⊢;exact h4.imp id λh=>by rw[bAE]at h;exact h.2,.inl ⟨B,F,rfl,(own B h1).symm⟩,Y _ (hdV ((s.t B).v s.r)) (λx=>kM B (.put (hdV ((s.t B).v s.r))) x) (.inl (hdS_v s.r (s.t B))),(by
   rw[Bool.or_eq_true]at h4;rcases h4 with h4|h4
   .exact .inl (edge B h4)
   .rw[bAE]at h4
    refine .inr ⟨h4.1,?_⟩;unfold J9;rcases F with F|F<;>(rw[F];exact Nat.beq_refl _))⟩
 unfold mvF at h;split at h
 .rename_i B W F J
  exact O B W (.inl F) J h
 .rename_i B W F J
  exact O B W (.inr F) J h
 .rename_i B c W F J
  split at h
  case h_2=>cases h
  rename_i l hl;split at h
  case h_2=>cases h
  rename_i q hq;split at h
  case h_2=>cases h
  rename_i z' hz;obtain⟨hb,h⟩:=A9 h;simp only[cond_true,Option.some.injEq,Prod.mk.injEq]at h;obtain⟨rfl,rfl,rfl,rfl⟩:=h;simp only[bAE,Bool.not_eq_true']at hb;obtain⟨⟨⟨h1,h2⟩,h3⟩,h4⟩:=hb;obtain⟨hc,hq'⟩:=List.getElem?_eq_some_iff.1 hq
  -- the part's value
  have hzv:z'.v s.r=(if q.1 then Ai (q.2.map (Cl.v s.r))else(q.2.map (Cl.v s.r)).getD 0 .dead):=by
   obtain⟨b,m⟩:=q;cases b with
   |true=>cases hz;rfl
   |false=>cases m with
    |nil=>cases hz
    |cons a m=>cases hz;rfl
  obtain⟨L,hL⟩:∃L:List V,L=l.map λp=>if p.1 then Ai (p.2.map (Cl.v s.r))else(p.2.map (Cl.v s.r)).getD 0 .dead:=⟨_,rfl⟩
  have hLc:L.getD c .dead=z'.v s.r:=by
   rw[hL,hzv];simp[List.getElem?_map,hq]
  have hcL:c<L.length:=by rw[hL];simpa using hc
  have U:s.den.t B=Dw L:=by
   show(s.t B).v s.r=_;rw[hl,hL];rfl
  have hown:(s.t B).own=true:=by
   have h5:AM (s.den.t B)=(s.t B).own:=Sl.own_v (s.t B);rw[<-h5,U];have h6:AM (z'.v s.r)=true:=by rw[Sl.own_v];exact h1
   show AM (V.many .tu L.length λk=>L.getD k .dead)=true
   simp only[AM];rw[List.any_eq_true];exact⟨c,List.mem_range.2 hcL,by rw[hLc];exact h6⟩
  have hty:=own B hown;refine⟨J,blE h2,h3,[(B,.part c)],λp hp=>by rw[List.mem_singleton.1 hp];exact h4,.inr ⟨B,c,L.length,λk=>L.getD k .dead,F,rfl,hty.trans U,hcL,hLc.symm⟩,Y _ _ (λx=>kM B (.part c) x) (.inl ?_),?_⟩
  .rw[hty,U]
   show OR c (V.many .tu L.length λk=>L.getD k .dead)=Dw ((l.set c (false,[])).map λp=>if p.1 then Ai (p.2.map (Cl.v s.r))else(p.2.map (Cl.v s.r)).getD 0 .dead)
   rw[List.map_set,<-hL];show V.many _ _ _=V.many _ (L.set c V.dead).length _;rw[List.length_set]
   congr 1
   funext k
   exact Yr.symm
  .unfold exB at h4
   rw[bAE]at h4;exact .inl (Hs h4.2)
 .cases h
theorem UQ{f:FuncId}{xs:Array Operand}(h:IQ op=some (f,xs)):∃e,op=.call ⟨.value (.func f),xs,e⟩:=by
 unfold IQ at h;split at h
 case h_2=>grind
 rename_i c;obtain⟨callee,args,e⟩:=c;split at h
 case h_2=>grind
 simp_all
theorem V8{l:List Operand}(e:k<l.length)(B:i≠k)(h:l[i]? =some x):x∈CG k l:=by
 rcases Nat.lt_or_ge i k with hlt|hge
 .exact List.mem_of_getElem? (by rw[O1 hlt e];omega)
 .obtain⟨j,rfl⟩:∃j,i=j+1:=⟨i-1,by omega⟩
  exact List.mem_of_getElem? (i:=j) (by rw[O2 (by omega) e];grind)
theorem NN(hU:∀e∈Us,e.OK P){okf:Nat->Bool}{sl:Nat->Nat}{Al:Nat->Nat->Prop}(hal:∀z,sl z=z\/Al z (sl z))(ht:VLe t s.den.t)(h:Mw hh okf sl Us s o=some A){u:A.α}(hu:A.o=some u):
  ∃v r,VL o.op=true/\LQ P hh.n s.den.σ Al o t [(A.y,.put v)] r/\VLe (IV o.dst r (AR [(A.y,.put v)] t)) (St.den ⟨AK (AK s.t A.y (A.u u)) A.d (A.z u),s.r⟩).t/\o.dst=some A.d/\A.y≠A.d/\A.y<hh.n/\∃f xs e z,IQ o.op=some (f,xs)/\Ke Us f=some e/\xs.toList[e.S.k]? =some (.tmp z)/\sl z=A.y/\okf z=true:=by
 unfold Mw at h;split at h
 case h_2=>cases h
 rename_i f xs d J hd;split at h
 case h_2=>cases h
 rename_i e he;split at h
 case h_2=>cases h
 rename_i zk hk;split at h
 case h_2=>cases h
 rename_i t0 dd x hy;obtain⟨y,O⟩:∃y,sl zk=y:=⟨_,rfl⟩;simp only[O]at h hy;split at h
 case isFalse=>cases h
 rename_i hte;subst hte;generalize hB:(Nat.beq dd e.S.d&&Nat.blt d hh.n&&Nat.blt y hh.n&& !Nat.beq y d&&okf zk&&DB e.S.rs&&((CG e.S.k xs.toList).map s.ev).all uok&&(CG e.S.k xs.toList).all s.liveX)=B at h;cases B with
 |false=>cases h
 |true=>
 simp only[bAE,Bool.not_eq_true']at hB;obtain⟨⟨⟨⟨⟨⟨⟨h1,h2⟩,h3⟩,h4⟩,h6⟩,h7⟩,h8⟩,h9⟩:=hB;simp only[cond_true]at h;split at h
 case h_2=>cases h
 rename_i z hz;cases h;obtain⟨⟨U,F,hft⟩,hfe⟩:=Ut hU he;have Y:=J;obtain⟨ats,J⟩:=UQ J;have hdd:=bqE h1;have hyd:y≠d:=λe=>by rw[e,Nat.beq_refl]at h4;cases h4
 have hks:e.S.k<xs.toList.length:=(List.getElem?_eq_some_iff.1 hk).1;have hu:Ph (bif e.S.eat then true else AcY e.S.t x) (e.g z x) none=some u:=hu;obtain⟨hho,hu⟩:=A9 hu;have hu:e.g z x=some u:=hu;have W:0<e.S.d:=by
  unfold Qu.ok at F;simp only[bAE]at F;exact blE F.1.1
 have hnd:∃s sz n f,cV e.S.t e.S.d x=.nd s true sz n f:=by
  unfold Qu.ok at F;simp only[bAE]at F;exact treeND W F.2
 have hhold:LP (cV e.S.t e.S.d x)\/(bif e.S.eat then V.dead else cV e.S.t e.S.d u.2)=.dead:=by
  cases he:e.S.eat with
  |true=>exact .inr rfl
  |false=>
   rw[he]at hho;exact .inl (AcX W hho)
 have hty:t y=cV e.S.t e.S.d x:=by
  have e1:s.den.t y=cV e.S.t e.S.d x:=by
   show(s.t y).v s.r=_;rw[hy,hdd];rfl
  rcases ht y with e2|⟨e2,_⟩
  .rw[e2,e1]
  .obtain⟨_,_,_,_,e3⟩:=hnd
   rw[e1,e3]at e2;cases e2
 obtain⟨k1,k2⟩:=AbM hks hz h8;have hc:=hft z x u hu;rw[hfe]at U hc;have hzy:zk=y\/Al zk y:=by
  rcases hal zk with h|h
  .exact .inl (h.symm.trans O)
  .rw[O]at h;exact .inr h
 have hlq:=AaF (Al:=Al) (P:=P) (N:=hh.n) (σ:=s.den.σ) (t:=t) J hd (blE h2) (blE h3) hyd U (by rw[<-Array.getElem?_toList];exact hk) hzy (Sub.of_eq hty) hnd hhold (by simpa using k1) (λi x' hik hx=>by
  have hx:xs.toList[i]? =some x':=by rw[Array.getElem?_toList];exact hx
  have hl:=aET.1 h9 x' (V8 hks hik hx);have hev:Ms.ev ⟨t,s.den.σ⟩ x'=s.den.ev x':=(ht.ev (σ:=s.den.σ) x').resolve_right λe=>X4 hl e.1
  rw[hev];exact k2 i x' hik hx) hc
 have e2:AR [(y,.put (bif e.S.eat then .dead else cV e.S.t e.S.d u.2))] t=AF t y (bif e.S.eat then .dead else cV e.S.t e.S.d u.2):=by
  funext i
  unfold AR AF;by_cases hi:i=y
  .subst hi
   rw[if_pos rfl];show Ih (if i=i then some (.put _)else none) _=_
   rw[if_pos rfl];rfl
  .rw[if_neg hi]
   show Ih (if y=i then some (.put _)else none) _=_
   rw[if_neg (Ne.symm hi)];rfl
 have e3:∀Z:Sl,(St.den ⟨AK (AK s.t y (bif e.S.eat then Sl.one .dead else .one (.c e.S.t e.S.d u.2))) d Z,s.r⟩).t=AF (AF s.den.t y (bif e.S.eat then .dead else cV e.S.t e.S.d u.2)) d (Z.v s.r):=by
  intro Z;show(λi=>(AK (AK s.t y _) d _ i).v s.r)=_
  rw[B2]
  congr 1
  show(λi=>(AK s.t y _ i).v s.r)=_
  rw[B2]
  congr 1
  cases e.S.eat<;>rfl
 have e4:(NA true e.S.rs u.1).v s.r=Xp e.S.rs u.1:=by rw[QZ _ _ _ h7,Hn]
 have hfz:∀v:V,AM (Go.Ve.frz v)=false:=by
  intro v
  induction v with
  |many t n f ih=>show((List.range n).any λk=>AM (Go.Ve.frz (f k)))=false;rw[List.any_eq_false];intro k _;rw[ih k];simp
  |nd=>rfl
  |_=>rfl
 cases hf:hh.fz.contains d with
 |false=>
  refine⟨_,_,by rw[J];rfl,hlq,?_,hd,hyd,blE h3,f,xs,e,zk,Y,he,hk,O,h6⟩
  show VLe _ (St.den ⟨AK (AK s.t y (bif e.S.eat then Sl.one .dead else .one (.c e.S.t e.S.d u.2))) d (bif false then Aan (NA true e.S.rs u.1)else NA true e.S.rs u.1),s.r⟩).t;rw[e3,hd,e2];show VLe (AF _ d _) (AF _ d ((NA true e.S.rs u.1).v s.r));rw[e4];exact VLe.upd (ht.upd (.inl rfl)) (.inl rfl)
 |true=>
  refine⟨_,_,by rw[J];rfl,hlq.frzR hd (blE h2),?_,hd,hyd,blE h3,f,xs,e,zk,Y,he,hk,O,h6⟩
  show VLe _ (St.den ⟨AK (AK s.t y (bif e.S.eat then Sl.one .dead else .one (.c e.S.t e.S.d u.2))) d (bif true then Aan (NA true e.S.rs u.1)else NA true e.S.rs u.1),s.r⟩).t;rw[e3,hd,e2];show VLe (AF _ d _) (AF _ d ((Aan (NA true e.S.rs u.1)).v s.r));refine VLe.upd (ht.upd (.inl rfl)) ?_;unfold Aan;cases hz2:(NA true e.S.rs u.1).frz with
  |none=>exact .inr ⟨rfl,hfz _⟩
  |some z2=>
   left;show _=z2.v s.r;rw[<-e4];exact Sl.frz_v hz2
theorem Zr(Z:∀e∈Us,e.OK P){ops:Array Oper}(W:VLe t s.den.t){O:Nat->Bool}(h:AaO hh O Us ops s o=some A){u:A.α}(U:A.o=some u):
  ∃ys r,(∀p∈ys,JH ops o p=true\/U6 hh ops o p=true)/\VL o.op=true/\LQ P hh.n s.den.σ (AlP hh ops o) o t ys r/\VLe (IV o.dst r (AR ys t)) (St.den ⟨AK (AK s.t A.y (A.u u)) A.d (A.z u),s.r⟩).t/\o.dst=some A.d/\∃f xs e z,IQ o.op=some (f,xs)/\Ke Us f=some e/\xs.toList[e.S.k]? =some (.tmp z)/\Xb hh ops o z=A.y/\okU hh O ops o z=true:=by
 obtain⟨v,r,h1,h2,h3,h4,_,_,f,xs,e,z,g1,g2,g3,B,F⟩:=NN Z (λz=>by
  unfold Xb;cases J:alS hh ops o z with
  |none=>exact .inl rfl
  |some y=>exact .inr (alS_v J)) W h U
 refine⟨_,r,λp Y=>?_,h1,h2,h3,h4,f,xs,e,z,g1,g2,g3,B,F⟩
 rw[List.mem_singleton.1 Y];unfold okU at F;unfold Xb at B;cases J:alS hh ops o z with
 |none=>
  rw[J]at B F;have B:z=A.y:=B;left;show(mvB ops o A.y||mvR ops o A.y||mvC ops o A.y)=true
  grind
 |some y=>
  rw[J]at B F;have B:y=A.y:=B;rw[B]at F;exact .inr F
theorem lqF_v(hE:EOK P E){ops:Array Oper}{pu ds:Option (Nat×Sl)}(ht:VLe t s.den.t)(h:lqF E ops s o=some (js,pu,ds))(hmo:o∈ops.toList):
  ∃ys r,(∀p∈ys,JH ops o p=true)/\VL o.op=true/\LQ P E.h.n s.den.σ (AlP E.h ops o) o t ys r/\VLe (IV o.dst r (AR ys t)) (St.den ⟨AaV ds (AaV pu (CI js s.t)),s.r⟩).t/\
   (∀i,Aq ops.toList i=true->yB E ops i=false->o.dst≠some i->AaV ds (AaV pu (CI js s.t)) i=s.t i):=by
 have own:∀y,AM (t y)=(s.t y).own:=by
  intro y;have h5:AM (s.den.t y)=(s.t y).own:=Sl.own_v (s.t y);rcases ht y with e|⟨e1,e2⟩
  .rw[e];exact h5
  .rw[e1]at h5;rw[e2,<-h5];rfl
 have hev:∀x,s.den.ev x≠.dead->Ms.ev ⟨t,s.den.σ⟩ x=s.den.ev x:=λx hx=>((ht.ev (σ:=s.den.σ) x).resolve_right λe=>hx e.1)
 have edge:∀y,mvB ops o y=true->∃e∈o.after,Region.binds .any e=true/\AG ops e.on=some y:=by
  intro y J;unfold mvB at J;rw[bAE]at J;exact Hs J.2
 have notW:∀y i,Aq ops.toList i=true->mvB ops o y=true->i≠y:=by
  rintro y i hn J rfl
  obtain⟨e,_,_,hed⟩:=edge i J;unfold AG at hed;rw[Option.bind_eq_some_iff]at hed;obtain⟨ok,hok,hokd⟩:=hed;have hmem:ok∈ops.toList:=by
   rw[<-Array.getElem?_toList]at hok;exact List.mem_of_getElem? hok
  have:Aq [ok] i=true:=by
   unfold Aq at hn⊢;rw[aET]at hn⊢;exact λo ho=>hn o (by rw[List.mem_singleton.1 ho];exact hmem)
  exact(AN this).1 hokd
 have Z:∀(js:List Nat) i,(∀y∈js,mvB ops o y=true)->Aq ops.toList i=true->CI js s.t i=s.t i:=by
  intro js i hj hn;unfold CI;have:js.contains i=false:=by
   cases hc:js.contains i with
   |false=>rfl
   |true=>exact absurd rfl (notW i i hn (hj i (by simpa using hc)))
  rw[this];rfl
 have kill:∀(js:List Nat) (xs:List Operand),xs.map (ID t)=xs.map (LF s)->js=jsO (xs.map (LF s))->VLe (AR ((Bc t xs).map λy=>(y,.all)) t) (λi=>(CI js s.t i).v s.r):=by
  intro js xs hx hj i;rw[De,Cz hx,<-hj];show le1 _ ((bif js.contains i then Sl.one Cl.dead else s.t i).v s.r);by_cases hi:i∈js
  .have:js.contains i=true:=by simpa using hi
   rw[if_pos hi,this];exact .inl rfl
  .have:js.contains i=false:=by simpa using hi
   rw[if_neg hi,this];exact ht i
 unfold lqF at h;split at h
 case h_4=>cases h
 .-- a struct
  rename_i ty ps d U F;obtain⟨xs,O⟩:∃xs,xs=ps.toList.map (·.2):=⟨_,rfl⟩
  rw[<-O]at h;have B:=Uh own xs;obtain⟨hb,h⟩:=A9 h;simp only[bAE]at hb;obtain⟨⟨h1,h2⟩,h3⟩:=hb;have h3:d<E.h.n:=blE h3
  have Y:∀y∈jsO (xs.map (LF s)),mvB ops o y=true:=by
   intro y J;split at h2
   .cases h2
   .rename_i a l e;rw[e]at J;exact aET.1 h2 y J
  split at h
  case h_2=>cases h
  rename_i i hi;obtain⟨hag,h⟩:=A9 h;split at h
  case h_2=>cases h
  rename_i l hl;cases h;obtain⟨k1,k2⟩:=MB (ev:=Ms.ev ⟨t,s.den.σ⟩) _ _ _ (λp _=>hev p.2) hl
  rw[Jz]at k2;have hbi:=hE.Θ.bd hi;rw[hag]at hbi;obtain⟨l',hl'⟩:∃l',l'=(bif E.h.fz.contains (2000000+d)then VK (As i.ty 0 i.ty.dflt) l else l):=⟨_,rfl⟩
  have W:Sub (Ai (l.map (Cl.v s.r))) (Ai (l'.map (Cl.v s.r))):=by
   rw[hl'];cases E.h.fz.contains (2000000+d)with
   |false=>exact Sub.refl _
   |true=>
    show Sub (V.many _ _ _) (V.many _ _ _);refine⟨λk=>((VK (As i.ty 0 i.ty.dflt) l).map (Cl.v s.r)).getD k .dead,by simp[MX],λk _=>XT s.r _ _ k⟩
  rw[<-hl'];refine⟨_,_,λp hp=>?_,by rw[U];rfl,(AaH (Al:=AlP E.h ops o) U F h3 hbi (by rw[<-O,B];exact h1) k1 k2).sub (λ_ h=>h) (λ_ _=>Sub.refl _) W,?_,λi hn hx hd=>?_⟩
  .rw[<-O,Cz B]at hp
   obtain⟨y,J,rfl⟩:=List.mem_map.1 hp;exact Y y J
  .rw[F,<-O]
   show VLe (AF _ d (Ai (l'.map (Cl.v s.r)))) (λi=>(AK (CI _ s.t) d (.agg l') i).v s.r)
   rw[B2];exact(kill _ xs B rfl).upd (.inl rfl)
  .show AK (CI _ s.t) d _ i=_
   unfold AK;rw[BB λe=>hd (by rw[F,e])]
   exact Z _ i Y hn
 .-- a slice's literal
  rename_i ty n ps d U F;obtain⟨xs,O⟩:∃xs,xs=ps.toList.map (·.2):=⟨_,rfl⟩
  rw[<-O]at h;have B:=Uh own xs;obtain⟨hb,h⟩:=A9 h;simp only[bAE]at hb;obtain⟨⟨h1,h2⟩,h3⟩:=hb;have h3:d<E.h.n:=blE h3
  have Y:∀y∈jsO (xs.map (LF s)),mvB ops o y=true:=by
   intro y J;split at h2
   .cases h2
   .rename_i a l e;rw[e]at J;exact aET.1 h2 y J
  split at h
  case h_2=>cases h
  rename_i j hj;obtain⟨e,hsl,_⟩:=Dh hE.Θ hj;obtain⟨hb2,h⟩:=A9 h;simp only[bAE]at hb2;have hw:=La hb2.1;have hnw:=blE hb2.2;split at h
  case h_2=>cases h
  rename_i l hl;obtain⟨hk,h⟩:=A9 h;split at h
  case h_2=>cases h
  rename_i zs hzs;cases h;obtain⟨k1,k2⟩:=MB (ev:=Ms.ev ⟨t,s.den.σ⟩) _ _ _ (λp _=>hev p.2) hl
  rw[Xq s.r j.ty n hw]at k2;obtain⟨p1,p2,p3⟩:=PY s.r n _ zs hzs
  have W:Sub (.nd true true j.ty.w n λi k=>(l.map (Cl.v s.r)).getD (i*j.ty.w+k) .dead) (cV (.sl j.ty) (j.sd+1) zs):=by
   show Sub _ (V.nd true true j.ty.w zs.length _);rw[p1];refine⟨_,rfl,λi k hi hk=>?_⟩
   have:=p3 i k hi hk;rw[List.map_map]at this;have e:(Cl.v s.r∘fit j.sd)=Cl.v s.r:=funext λy=>(fitO_v _ s.r y).1
   rw[e]at this;exact this
  refine⟨_,_,λp hp=>?_,by rw[U];rfl,(Nz (Al:=AlP E.h ops o) U F h3 hsl hw hnw (by rw[<-O,B];exact h1) k1 k2 ?_).sub (λ_ h=>h) (λ_ _=>Sub.refl _) W,?_,λi hn hx hd=>?_⟩
  .rw[<-O,Cz B]at hp
   obtain⟨y,J,rfl⟩:=List.mem_map.1 hp;exact Y y J
  .intro v hv
   obtain⟨y,J,rfl⟩:=List.mem_map.1 hv;exact(Yb (aET.1 hk y J)).1
  .rw[F,<-O]
   show VLe (AF _ d _) (λi=>(AK (CI _ s.t) d _ i).v s.r)
   rw[B2];exact(kill _ xs B rfl).upd (.inl rfl)
  .show AK (CI _ s.t) d _ i=_
   unfold AK;rw[BB λe=>hd (by rw[F,e])]
   exact Z _ i Y hn
 .-- a store
  rename_i ty p x U F;split at h
  case h_2=>cases h
  rename_i lp l i hp hl hi;obtain⟨hb,h⟩:=A9 h;simp only[cond_true,Option.some.injEq,Prod.mk.injEq]at h;obtain⟨rfl,rfl,rfl⟩:=h;simp only[bAE,Bool.or_eq_true]at hb;obtain⟨⟨⟨⟨⟨⟨h1,h2⟩,h3⟩,h4⟩,h5⟩,h6⟩,h7⟩:=hb;have h2:p<E.h.n:=blE h2;have h3:=bqE h3;have h4:=bqE h4;obtain⟨y,J,hyl⟩:=Option.bind_eq_some_iff.1 hl;obtain⟨g1,g2,g3⟩:=UP (r:=s.r) hyl;have hx:Ms.ev ⟨t,s.den.σ⟩ x=y.v s.r:=by
   rw[<-A7 J];refine hev x ?_;rw[A7 J];intro e;rw[e]at g1;cases g1
  have htp:t p=Be true (lp.map Cl.v0):=by
   have e:s.den.t p=Be true (lp.map Cl.v0):=newC_v hp s.r;rcases ht p with h|⟨h,_⟩
   .rw[h,e]
   .rw[e]at h;cases h
  have hxp:x≠.tmp p:=by
   rintro rfl
   have h7:(!Nat.beq p p)=true:=h7;rw[Nat.beq_refl]at h7;cases h7
  have B:=Uh own [x];have hlv:l.map (Cl.v s.r)=l.map Cl.v0:=List.map_congr_left λc hc=>(Yb (aET.1 h5 c hc)).2
  have Y:∀y∈jsO ([x].map (LF s)),mvB ops o y=true:=aET.1 h6;have hti:=hE.Θ.ty hi
  have hlq:=AaG (Al:=AlP E.h ops o) (P:=P) (N:=E.h.n) (σ:=s.den.σ) (t:=t) U F hti htp (by simpa using h3) h2 hxp (by rw[hx];exact g1) (by rw[hx,g2];simpa using h4)
   (by
    rw[hx,g2];intro v hv;obtain⟨c,hc,rfl⟩:=List.mem_map.1 hv;exact(Yb (aET.1 h5 c hc)).1)
   (by
    rw[hx,g2];intro v hv;obtain⟨c,hc,rfl⟩:=List.mem_map.1 hv;exact g3 c hc)
  rw[hx,g2,hlv]at hlq;have hnp:p∉Bc t [x]:=by
   intro hm;rw[Cz B]at hm;cases x with
   |tmp z=>
    have hz:z≠p:=λe=>hxp (by rw[e])
    have hm:p∈jsO [bif(s.t z).own then some z else none]:=hm;cases ho:(s.t z).own with
    |true=>rw[ho]at hm;exact hz (List.mem_singleton.1 hm).symm
    |false=>rw[ho]at hm;cases hm
   |const v=>cases hm
   |global g=>cases hm
   |func f=>cases hm
  have W:Sub (Be true (l.map Cl.v0)) (Be true ((VK lp l).map Cl.v0)):=by
   unfold Be;have e:((VK lp l).map Cl.v0).length=(l.map Cl.v0).length:=by simp[MX]
   rw[e];refine⟨_,rfl,λi k hi hk=>?_⟩
   obtain rfl:i=0:=by omega
   exact Aa4 lp l k
  refine⟨(p,.put (Be true ((VK lp l).map Cl.v0)))::(Bc t [x]).map λy=>(y,.all),.dead,λq hq=>?_,by rw[U];rfl,hlq.sub (λz hz=>?_) (λz v=>?_) (Sub.refl _),?_,λi hn hx hd=>?_⟩
  .rcases List.mem_cons.1 hq with rfl|hq
   .show(mvB ops o p||mvR ops o p||mvC ops o p)=true
    rcases h1 with h1|h1
    .rw[h1];rfl
    .rw[h1.2,Bool.or_true];rfl
   .rw[Cz B]at hq
    obtain⟨y,J,rfl⟩:=List.mem_map.1 hq;exact Y y J
  .by_cases hzp:z=p
   .subst hzp;rw[HW];simp
   .rw[HV hzp]at hz⊢;exact hz
  .by_cases hz:z=p
   .subst hz;rw[HW,HW];exact W
   .rw[HV hz,HV hz];exact Sub.refl _
  .rw[F]
   show VLe (AR _ t) (λi=>(AK (CI _ s.t) p (.new (VK lp l)) i).v s.r)
   rw[B2];have hk:=kill _ [x] B rfl;intro i;unfold AF;by_cases hi:i=p
   .subst hi
    rw[if_pos rfl];unfold AR;rw[HW];exact .inl rfl
   .rw[if_neg hi]
    have:=hk i;unfold AR at this⊢;rw[HV hi];exact this
  .show AK (CI _ s.t) p _ i=_
   unfold AK;have hip:i≠p:=by
    rcases h1 with h1|h1
    .exact notW p i hn h1
    .rintro rfl
     have:yB E ops i=true:=by
      unfold yB;refine List.any_eq_true.2 ⟨o,hmo,?_⟩;have e:stB o i=true:=by unfold stB;rw[U];exact Nat.beq_refl i
      rw[h1.1,e,Bool.or_true];rfl
     rw[hx]at this;cases this
   rw[BB hip];exact Z _ i Y hn
theorem own_le(F:VLe t s.den.t)(y:Nat):AM (t y)=(s.t y).own:=by
 have B:AM (s.den.t y)=(s.t y).own:=Sl.own_v (s.t y);rcases F y with e|⟨O,J⟩
 .grind
 .rw[O]at B;rw[J,<-B];rfl
theorem AcD{ops:Array Oper}{y:Nat}(W:Aq ops.toList i=true)(O:mvB ops o y=true):i≠y:=by
 rintro rfl
 unfold mvB at O;rw[bAE]at O;obtain⟨e,_,_,B⟩:=Hs O.2;unfold AG at B;rw[Option.bind_eq_some_iff]at B;obtain⟨ok,J,F⟩:=B;have U:=by
  rw[<-Array.getElem?_toList]at J;exact List.mem_of_getElem? J
 have:Aq [ok] i=true:=by
  unfold Aq at W⊢
  grind
 exact(AN this).1 F
theorem Adb{ops:Array Oper}(hj:∀y∈js,mvB ops o y=true)(e:Aq ops.toList i=true):CI js s.t i=s.t i:=by
 unfold CI;have:js.contains i=false:=by
  cases B:js.contains i with
  |false=>rfl
  |true=>exact absurd rfl (AcD e (hj i (by grind)))
 grind
theorem Ada(B:VLe t s.den.t){xs:List Operand}(e:xs.map (ID t)=xs.map (LF s))(hj:js=jsO (xs.map (LF s))):VLe (AR ((Bc t xs).map λy=>(y,.all)) t) (λi=>(CI js s.t i).v s.r):=by
 intro i;rw[De,Cz e,<-hj];show le1 _ ((bif js.contains i then Sl.one Cl.dead else s.t i).v s.r);by_cases hi:i∈js
 .have:js.contains i=true:=by grind
  rw[if_pos hi,this];exact .inl rfl
 .have:js.contains i=false:=by grind
  rw[if_neg hi,this];exact B i
def onlyS(s:St)(y:Operand):St:=⟨λi=>match y with
 |.tmp z=>bif Nat.beq i z then s.t i else .one .dead
 |_=>.one .dead,s.r⟩
theorem Pp{N:Nat}(ht:VLe t s.den.t){x y:Operand}{ys:List ty.T}(hyo:y∈op.operands)(h:Wv s ty (s.ev y)=some (d,ys)):
  ∀(C:Ctx) (ρ:Nat->Value) (F:Nat->Nat->Prop) (a:Act) (w:World) (D:Nat->Prop) (T:Nat->Nat->Prop) (t':Nat->V),(∀z∈Ho op,t' z=t z)->PR C N s.den.σ ρ F t' a w D T->
   ∃Fy,Wk D w ty.w ys.length (λi k=>(tyV ty d (ys.getD i ty.dflt)).getD k .dead) (a.eval y) Fy/\(∀i k c,i<ys.length->k<ty.w->Fy i k c->opF t' T [x,y] 1 c)/\
    ∀i k i' k' c,i<ys.length->k<ty.w->i'<ys.length->k'<ty.w->(i≠i'\/k≠k')->Fy i k c->¬Fy i' k' c:=by
 intro C ρ F a w D T t' hag hp;have hev:∀v,s.ev y=some v->v.v s.r≠.dead->Ms.ev ⟨t',s.den.σ⟩ y=v.v s.r:=by
  intro v hv Y;rw[<-A7 hv]at Y⊢;have h1:Ms.ev ⟨t,s.den.σ⟩ y=s.den.ev y:=((ht.ev (σ:=s.den.σ) y).resolve_right λe=>Y e.1)
  rw[<-h1];cases y with
  |tmp z=>exact hag z (Ds hyo)
  |const v=>rfl
  |global g=>rfl
  |func f=>rfl
 unfold Wv at h;split at h
 .rename_i t1 d1 ys1 B
  split at h
  case isFalse=>cases h
  rename_i e;subst e;obtain⟨hno,h⟩:=A9 h;cases h;have hv:=hev _ B (by intro e;cases e)
  have hr:=hp.opF_rel (xs:=[x,y]) (j:=1) (x:=y) rfl;rw[hv]at hr;exact Xy (R:=Ak s.den.σ ρ w) hr λi k hi hk=>Dr _ _ _ k hno hk
 .rename_i Y
  split at h
  case h_2=>cases h
  rename_i d1 ys1 B;cases h
  -- the value's slot owns nothing
  obtain⟨O,J⟩:∃O,O=onlyS s y:=⟨_,rfl⟩;have Z:O.den.σ=s.den.σ:=by rw[J];rfl
  have hs2:O.ev y=s.ev y:=by
   rw[J];cases y with
   |tmp z=>
    show some (bif Nat.beq z z then s.t z else .one .dead)=some (s.t z);rw[Nat.beq_refl];rfl
   |const v=>rfl
   |global g=>rfl
   |func f=>rfl
  have hdn:∀z,y=.tmp z->(t' z=s.den.t z/\(s.t z).own=false/\z<N):=by
   intro z hz;subst hz;have B:Wh s ty s.r.length (some (s.t z))=some (d,ys,[]):=B
   have hnotown:(s.t z).own=false:=by
    have B:=(YP B).1;unfold Wg at B;split at B
    case h_4=>cases B
    .rename_i e;rw[Option.some.inj e];rfl
    .rename_i e;rw[Option.some.inj e];rfl
    .rename_i e;rw[Option.some.inj e];rfl
   have U:(s.t z).v s.r≠.dead:=by
    have B:=(YP B).1;unfold Wg at B;split at B
    case h_4=>cases B
    .rename_i e;rw[Option.some.inj e];intro e';cases e'
    .rename_i e;rw[Option.some.inj e];intro e';cases e'
    .rename_i e;rw[Option.some.inj e];intro e';cases e'
   have e1:t' z=s.den.t z:=hev (s.t z) rfl U;refine⟨e1,hnotown,Nat.lt_of_not_le λhz=>?_⟩
   have:=hp.dd z hz;rw[e1]at this;exact U this
  have W:∀i,O.den.t i=.dead\/(O.den.t i=t' i/\AM (t' i)=false):=by
   intro i;rw[J];cases y with
   |tmp z=>
    show(bif Nat.beq i z then s.t i else .one .dead).v s.r=.dead\/_;by_cases hiz:i=z
    .subst hiz
     obtain⟨e1,e2,_⟩:=hdn i rfl;right;refine⟨?_,?_⟩
     .show(bif Nat.beq i i then s.t i else .one .dead).v s.r=_
      rw[Nat.beq_refl,e1];rfl
     .rw[e1]
      have h5:AM (s.den.t i)=(s.t i).own:=Sl.own_v (s.t i);rw[h5];exact e2
    .rw[BB hiz];exact .inl rfl
   |const v=>exact .inl rfl
   |global g=>exact .inl rfl
   |func f=>exact .inl rfl
  have hcr:=hp.cr (t2:=O.den.t) W;have hdd:∀i,N<=i->O.den.t i=.dead:=by
   intro i hi;rcases W i with h|⟨h,_⟩
   .exact h
   .rw[h];exact hp.dd i hi
  have hy2:Wh O ty s.r.length (O.ev y)=some (d,ys,[]):=by rw[hs2,J];exact B
  rw[<-Z]at hcr;obtain⟨⟨Fy,h1,h2,h3⟩,_⟩:=IS (s:=O) hcr hdd hy2;exact⟨Fy,h1,λi k c hi hk hF=>(by obtain⟨j,hj,_⟩:=h2 i k c hi hk hF;cases hj),h3⟩
theorem Zi(Z:VLe t s.den.t){d' U:Nat}{xs:List ty.T}(B:Ww ty d' (s.ev x)=some (U,xs)):
  Sub (Ms.ev ⟨t,s.den.σ⟩ x) (.nd true true ty.w xs.length λi k=>(tyV ty U (xs.getD i ty.dflt)).getD k .dead):=by
 have J:∀v,s.ev x=some v->v.v s.r≠.dead->Ms.ev ⟨t,s.den.σ⟩ x=v.v s.r:=by
  intro v Y F;rw[<-A7 Y]at F⊢;exact(Z.ev x).resolve_right λe=>F e.1
 unfold Ww at B;split at B
 .rename_i t1 d1 W O
  split at B
  case isFalse=>grind
  rename_i e;subst e;cases B;rw[J _ O (by intro e;cases e)]
  exact Sub.refl _
 .rename_i O
  cases B;rw[J _ O (by intro e;cases e)]
  exact .inr ⟨rfl,_,_,_,rfl⟩
 grind
theorem appO_v(hE:EOK P E){ops:Array Oper}{A:AO}(ht:VLe t s.den.t)(h:appO E ops s o=some A)(hA:A.p):
  ∃ys r,(∀p∈ys,JH ops o p=true)/\VL o.op=true/\LQ P E.h.n s.den.σ (AlP E.h ops o) o t ys r/\VLe (IV o.dst r (AR ys t)) (St.den ⟨AK (CI A.js s.t) A.d A.y,s.r⟩).t/\
   (∀i,Aq ops.toList i=true->o.dst≠some i->AK (CI A.js s.t) A.d A.y i=s.t i):=by
 unfold appO at h;split at h
 case h_2=>cases h
 rename_i ty x y d J B;have J:=Adg J;split at h
 case h_2=>cases h
 rename_i j hj;obtain⟨e,hsl,_⟩:=Dh hE.Θ hj;have O:=Uh (own_le ht) [x,y];obtain⟨hb,h⟩:=A9 h;simp only[bAE]at hb;obtain⟨⟨⟨⟨h1,h2⟩,h3⟩,h4⟩,h5⟩:=hb;have h3:d<E.h.n:=blE h3;have hby:=La h4;have hw:=La h5
 have Y:∀W∈jsO ([x,y].map (LF s)),mvB ops o W=true:=by
  intro W hy;split at h2
  .cases h2
  .rename_i a l e;rw[e]at hy;exact aET.1 h2 W hy
 split at h
 case h_2=>cases h
 rename_i d' ys hys;split at h
 case h_2=>cases h
 rename_i dx xs hxs;obtain⟨hdk,h⟩:=A9 h;cases h;have hA:xs.length+ys.length<=OM j.bytes:=hA
 have hb:(xs.length+ys.length)*j.bytes<=140737488355328:=by
  rw[Nat.mul_comm];exact(Nat.mul_comm _ _▸(Nat.le_div_iff_mul_le hby).1 hA)
 have h63:xs.length+ys.length<=maxLen:=by
  have:xs.length+ys.length<=(xs.length+ys.length)*j.bytes:=Nat.le_mul_of_pos_right _ hby;simp only[maxLen];omega
 have hx:=Zi ht hxs;have ee:tyV j.ty d'=tyV j.ty dx:=funext λz=>C0 _ _ _ z (Kz hdk)
 have F:=Pp (N:=E.h.n) (x:=x) ht (op:=o.op) (by rw[J];simp[Op.operands,Call.operands]) hys
 rw[ee]at F;have U:=YY (Al:=AlP E.h ops o) (P:=P) (N:=E.h.n) (σ:=s.den.σ) (t:=t) J B h3 hsl hw hx (by rw[O];exact h1) F h63 hb
 have U:=U.sub (λ_ h=>h) (λ_ _=>Sub.refl _) (Nq rfl rfl (λ_ _ _=>rfl) (λ_ _ _=>rfl))
 dsimp only
 generalize hz:(bif E.h.fz.contains d then Aan (Sl.one (.c (.sl j.ty) (dx+1) (Adf xs ys)))else .one (.c (.sl j.ty) (dx+1) (Adf xs ys)))=z
 have Z:∃r,LQ P E.h.n s.den.σ (AlP E.h ops o) o t ((Bc t [x,y]).map λy=>(y,.all)) r/\le1 r (z.v s.r):=by
  cases hf:E.h.fz.contains d with
  |false=>rw[hf]at hz;subst hz;exact⟨_,U,.inl rfl⟩
  |true=>rw[hf]at hz;subst hz;exact⟨_,U.frzR B h3,Ac3 (.one (.c (.sl j.ty) (dx+1) (Adf xs ys))) s.r⟩
 obtain⟨r,hlr,hle⟩:=Z;refine⟨_,r,λp hp=>?_,by rw[J];rfl,hlr,?_,λi hn hd=>?_⟩
 .rw[Cz O]at hp
  obtain⟨W,hy,rfl⟩:=List.mem_map.1 hp;exact Y W hy
 .rw[B]
  show VLe (AF _ d _) (λi=>(AK (CI _ s.t) d _ i).v s.r)
  rw[B2];exact(Ada ht O rfl).upd hle
 .show AK (CI _ s.t) d _ i=_
  unfold AK;rw[BB λe=>hd (by rw[B,e])]
  exact Adb Y hn
theorem DO{l:List Oper}(h:∀o∈g,o∈l)(e:Aq l i=true):Aq g i=true:=by
 unfold Aq at e⊢
 grind
theorem AcO(h:le1 v v'):AM v=AM v':=by
 rcases h with e|⟨F,B⟩
 .grind
 .rw[B,F];rfl
theorem AcB(h:VM s x=true):AM (s.den.ev x)=false:=by
 unfold VM at h;split at h
 .rename_i y e
  rw[A7 e];have B:AM (y.v s.r)=y.own:=Sl.own_v y
  grind
 grind
theorem OJ:∀{ρ:Asm}{c:Nat}{v:Bool},Z2 ρ c=some v->∃j,(j,c,v)∈ρ
 |[],_,_,h=>by cases h
 |(i,d,u)::ρ,c,v,h=>by
  unfold Z2 at h;cases e:Nat.beq d c with
  |true=>
   simp_all
  |false=>
   rw[e]at h;obtain⟨j,hj⟩:=OJ h
   grind
theorem HX:∀{ρ:Asm}{j:Nat}{v:Bool},X2 ρ j=some v->∃d,(j,d,v)∈ρ
 |[],_,_,h=>by cases h
 |(i,d,u)::ρ,j,v,h=>by
  unfold X2 at h;cases e:Nat.beq i j with
  |true=>
   simp_all
  |false=>
   rw[e]at h;obtain⟨B,hd⟩:=HX h
   grind
def CN(ops:Array Oper)(ρ:Asm)(S:Nat->V):Prop:=∀x∈ρ,(ops[x.1]?).bind (·.dst)=some x.2.1/\S x.2.1=.c (.bool x.2.2)
theorem IB{ops:Array Oper}{ρ:Asm}{v:Bool}(U:VLe t s.den.t)(F:CN ops ρ s.den.t)(h:Oy ρ s op=some v)(hK:K (.c (.bool v))):Oc P s.den.σ (Ms.ev ⟨t,s.den.σ⟩) op K:=by
 unfold Oy at h;split at h
 case h_2=>cases h
 rename_i c x y;cases B:(VM s x&&VM s y)with
 |false=>rw[B]at h;cases h
 |true=>
 rw[B]at h;rw[bAE]at B;simp only[cond_true]at h;split at h
 case h_2=>cases h
 rename_i u hu;obtain⟨j,hj⟩:=OJ hu;obtain⟨_,Y⟩:=F _ hj;have O:t c=.c (.bool u):=by
  rcases U c with e|e
  .rw[e];exact Y
  .rw[Y]at e;cases e.1
 have ev:∀x v,s.den.ev x=.c (.bool v)->Ms.ev ⟨t,s.den.σ⟩ x=.c (.bool v):=λx v J=>by
  rcases U.ev (σ:=s.den.σ) x with e|e
  .rw[e];exact J
  simp_all
 have W:=λx J=>(AcO (U.ev (σ:=s.den.σ) x)).trans (AcB J)
 have Z:=valB_v h;show Vy (t c) (Ms.ev ⟨t,s.den.σ⟩ x) (Ms.ev ⟨t,s.den.σ⟩ y) K;rw[O];refine⟨W x B.1,W y B.2,λe=>?_,λe=>?_⟩
 .subst e
  rw[ev x v Z];exact hK
 grind
theorem Ye(h:AcQ (s.t d)=true):s.den.t d=udV:=by
 show(s.t d).v s.r=_;unfold AcQ at h;split at h
 .rename_i e;rw[e];rfl
 grind
theorem Acs{d:Option Nat}(F:VLe t s.den.t)(h:C3 E.h s d=some s'):s'.r=s.r/\(∀e,d=some e->e<E.h.n)/\(∀i,d≠some i->s'.t i=s.t i/\KZ t d i=t i)/\VLe (KZ t d) s'.den.t/\∀e,d=some e->AM (KZ t d e)=false:=by
 unfold C3 at h;split at h
 .rename_i d
  cases J:Nat.blt d E.h.n with
  |false=>grind
  |true=>
   rw[J]at h;cases h;refine⟨rfl,λe B=>by simp_all,λi hi=>⟨?_,if_neg λe=>hi (by grind)⟩,?_,λe B=>?_⟩
   .show AK s.t d _ i=_
    unfold AK;rw[BB λe=>hi (by grind)];rfl
   .show VLe (AF t d udV) (λi=>(AK s.t d (.tup []) i).v s.r)
    rw[B2];exact F.upd (.inl rfl)
   .cases B
    show AM (AF t d udV d)=false;unfold AF;rw[if_pos rfl];rfl
 .cases h
  exact⟨rfl,(λe B=>by grind),(λ_ _=>⟨rfl,rfl⟩),F,λe B=>by grind⟩
theorem setB_v{d:Option Nat}{v:Bool}{K:(Nat->V)->Prop}(F:VLe t s.den.t)(h:Adp E.h s d v=some s')(O:∀t',s'.r=s.r->(∀i,d≠some i->s'.t i=s.t i/\t' i=t i)->VLe t' s'.den.t->(∀e,d=some e->AM (t' e)=false)->K t'):QK E.h d t K (.c (.bool v)):=by
 unfold Adp at h;split at h
 case h_2=>grind
 rename_i d;cases B:(Nat.blt d E.h.n&& !E.h.fz.contains d)with
 |false=>grind
 |true=>
 rw[B]at h;rw[bAE,Bool.not_eq_true']at B;cases h;refine⟨blE B.1,?_⟩;simp only[B.2,if_false];refine O _ rfl (λi hi=>⟨?_,if_neg λe=>hi (by grind)⟩) ?_ λe J=>?_
 .show AK s.t d _ i=_
  unfold AK;rw[BB λe=>hi (by grind)];rfl
 .show VLe (AF t d _) (λi=>(AK s.t d (.one (.c .bool 0 v)) i).v s.r)
  rw[B2];exact F.upd (.inl rfl)
 .cases J
  unfold AF;rw[if_pos rfl];rfl
variable (hE:EOK P E)
include hE
theorem stepq{R:Type}{s:St}{o:Oper}{f:Sl->Option St}{K:St->Option R}{z:R}{t:Nat->V}{Kt:(Nat->V)->Prop}(U:VLe t s.den.t)(h:(AbO E s o.type o.op λy=>match f y with
   |some s'=>K s'
   |none=>none)=some z) (hf:∀y s',f y=some s'->s.putX true E.h o.dst y=some s')
  (hK:∀s' t' y,s'.r=s.r->(∀i,o.dst≠some i->s'.t i=s.t i/\t' i=t i)->VLe t' s'.den.t->f y=some s'->(∀e,o.dst=some e->(y.own&& !fzD E.h o.dst)=false->AM (t' e)=false)->K s'=some z->Kt t'):qop P s.den.σ (Ms.ev ⟨t,s.den.σ⟩) o.op (QK E.h o.dst t Kt):=by
 obtain⟨hl,y,hq,O⟩:=Il hE h;split at O
 case h_2=>grind
 rename_i s' B;have W:=hf y s' B;obtain⟨Z,e,he,hi⟩:=putH_r W;refine qop_le U hl (Ob hq λr0 J=>⟨y.v s.r,J,putH_v W U λt' F h1 h2=>hK s' t' y Z (λi Y=>⟨hi i λh=>Y (by grind),h1 i Y⟩) F B h2 O⟩)
theorem pathg{ops:Array Oper}{z:Bool}{Kt:(Nat->V)->Prop}{F:List Oper}:∀(g:List Oper) (ρ:Asm) (s:St) (t:Nat->V) (K:Asm->St->Option Bool),CN ops ρ s.den.t->(∀x∈ρ,Aq g x.2.1=true)->VLe t s.den.t->Cy E true ops g ρ s K=some z->
  (∀ρ' s' t',s'.r=s.r->(∀i,Aq g i=true->s'.t i=s.t i/\t' i=t i)->(∀i,Aq g i=false->AM (t' i)=false)->VLe t' s'.den.t->CN ops ρ' s'.den.t->K ρ' s'=some z->vq P E.h ops s.den.σ F Kt t')->vq P E.h ops s.den.σ (g++F) Kt t:=by
 intro g
 induction g with
 |nil=>intro ρ s t K Y _ ht h hK;exact hK ρ s t rfl (λ_ _=>⟨rfl,rfl⟩) (λi hi=>by cases hi) ht Y h
 |cons o g ih=>
  intro ρ s t K Y hnd ht h hK
  have hc:∀i,Aq (o::g) i=((match o.dst with
   |some e=>!Nat.beq e i
   |none=>true)&&Aq g i):=λ_=>rfl
  unfold Cy at h;split at h
  case h_1=>cases h
  rename_i j J hgo;split at h
  case h_1=>cases h
  rename_i dj hdj;rw[List.cons_append]
  -- what is behind this operation
  have cont:∀(B:Asm) (s1:St) (t1:Nat->V),CN ops B s.den.t->(∀x∈B,Aq (o::g) x.2.1=true)->s1.r=s.r->(∀i,o.dst≠some i->s1.t i=s.t i/\t1 i=t i)->VLe t1 s1.den.t->(∀e,o.dst=some e->AM (t1 e)=false)->Cy E true ops g B s1 K=some z->vq P E.h ops s.den.σ (g++F) Kt t1:=by
   intro B s1 t1 U W hr hi ht1 ho h1;have hσ:s1.den.σ=s.den.σ:=by show s1.r.map Ab.v=s.r.map Ab.v;rw[hr]
   rw[<-hσ];refine ih B s1 t1 K (λx hx=>⟨(U x hx).1,?_⟩) (λx hx=>(AN (W x hx)).2) ht1 h1 λρ2 s2 t2 h2 O h3' h4 h5 h6=>?_
   .show(s1.t x.2.1).v s1.r=_
    rw[(hi _ (AN (W x hx)).1).1,hr];exact(U x hx).2
   .rw[hσ]
    refine hK ρ2 s2 t2 (h2.trans hr) (λi hn=>?_) (λi hn=>?_) h4 h5 h6
    .obtain⟨n1,n2⟩:=AN hn
     exact⟨(O i n2).1.trans (hi i n1).1,(O i n2).2.trans (hi i n1).2⟩
    .by_cases hg2:Aq g i=true
     .rw[(O i hg2).2]
      rw[hc,hg2,Bool.and_true]at hn;split at hn
      .rename_i e he
       have:e=i:=bqE (by simpa using hn)
       subst this;exact ho e he
      .cases hn
     .exact h3' i (by simpa using hg2)
  have pass:∀B:Asm,CN ops B s.den.t->(∀x∈B,Aq (o::g) x.2.1=true)->onS (C3 E.h s o.dst) (λs'=>Cy E true ops g B s' K)=some z->(∀d,o.dst=some d->d<E.h.n)/\vq P E.h ops s.den.σ (g++F) Kt (KZ t o.dst):=by
   intro B h1 h2 O;cases hp:C3 E.h s o.dst with
   |none=>rw[hp]at O;cases O
   |some s1=>
    rw[hp]at O;obtain⟨q1,q2,q3,q4,q5⟩:=Acs ht hp;exact⟨q2,cont B s1 _ h1 h2 q1 q3 q4 q5 O⟩
  have step:∀B:Asm,CN ops B s.den.t->(∀x∈B,Aq (o::g) x.2.1=true)->ME E true B s o (λs'=>Cy E true ops g B s' K)=some z->qop P s.den.σ (Ms.ev ⟨t,s.den.σ⟩) o.op (QK E.h o.dst t (vq P E.h ops s.den.σ (g++F) Kt)):=by
   intro B h1 h2 O;unfold ME at O;split at O
   .rename_i v hv
    split at O
    case h_2=>cases O
    rename_i s1 hs1;exact IB ht h1 hv ⟨_,Sub.refl _,setB_v ht hs1 λt' q1 q2 q3 q4=>cont B s1 t' h1 h2 q1 q2 q3 q4 O⟩
   .refine stepq hE (f:=λy=>bif y.own&& !fzD E.h o.dst then none else s.putX true E.h o.dst y) (K:=λs'=>Cy E true ops g B s' K) ht O (λy s' hy=>?_) λs' t' y hr hi ht' hfy ho hy=>?_
    .cases Z:y.own&& !fzD E.h o.dst with
     |true=>rw[Z]at hy;cases hy
     |false=>rw[Z]at hy;exact hy
    have Z:(y.own&& !fzD E.h o.dst)=false:=by
     cases Z:y.own&& !fzD E.h o.dst with
     |true=>rw[Z]at hfy;cases hfy
     |false=>rfl
    exact cont B s' t' h1 h2 hr hi ht' (λe he=>ho e he Z) hy
  -- what the guard yields
  have run:∀v:Bool,s.den.t dj=.c (.bool v)->gv t ops j=.c (.bool v):=λv hv=>by
   unfold gv;rw[hdj];rcases ht dj with e|e
   .rw[<-hv];exact e
   .rw[hv]at e;cases e.1
  unfold vq;rw[hgo]
  have known:∀(B:Asm) (v:Bool),s.den.t dj=.c (.bool v)->CN ops B s.den.t->(∀x∈B,Aq (o::g) x.2.1=true)->(v=J->ME E true B s o (λs'=>Cy E true ops g B s' K)=some z)->(v=(!J)->onS (C3 E.h s o.dst) (λs'=>Cy E true ops g B s' K)=some z)->
    (match gv t ops j with
     |.c (.bool b)=>(b=J->qop P s.den.σ (Ms.ev ⟨t,s.den.σ⟩) o.op (QK E.h o.dst t (vq P E.h ops s.den.σ (g++F) Kt)))/\(b=(!J)->(∀d,o.dst=some d->d<E.h.n)/\vq P E.h ops s.den.σ (g++F) Kt (KZ t o.dst))
     |v=>v=udV/\(∀d,o.dst=some d->d<E.h.n)/\vq P E.h ops s.den.σ (g++F) Kt (KZ t o.dst)):=by
   intro B v hv h1 h2 O h4;rw[run v hv];exact⟨λe=>step B h1 h2 (O e),λe=>pass B h1 h2 (h4 e)⟩
  cases hu:AcQ (s.t dj)with
  |true=>
   rw[hu]at h;have hgv:gv t ops j=udV:=by
    unfold gv;rw[hdj];have hv:=Ye hu;rcases ht dj with e|e
    .rw[<-hv];exact e
    .rw[hv]at e;cases e.1
   obtain⟨p1,p2⟩:=pass ρ Y hnd h
   have hm:(match gv t ops j with
     |.c (.bool b)=>(b=J->qop P s.den.σ (Ms.ev ⟨t,s.den.σ⟩) o.op (QK E.h o.dst t (vq P E.h ops s.den.σ (g++F) Kt)))/\(b=(!J)->(∀d,o.dst=some d->d<E.h.n)/\vq P E.h ops s.den.σ (g++F) Kt (KZ t o.dst))
     |v=>v=udV/\(∀d,o.dst=some d->d<E.h.n)/\vq P E.h ops s.den.σ (g++F) Kt (KZ t o.dst)):=by
    rw[hgv];exact⟨rfl,p1,p2⟩
   exact hm
  |false=>
   rw[hu]at h;simp only[cond_false]at h;split at h
   .rename_i v hv
    obtain⟨d',hm⟩:=HX hv;obtain⟨e1,e2⟩:=Y _ hm;have e1:some dj=some d':=hdj.symm.trans e1;cases e1;refine known ρ v e2 Y hnd (λe=>?_) λe=>?_
    .subst e;simpa using h
    .subst e;cases J<;>exact h
   .split at h
    case h_2=>cases h
    rename_i dd b hb;have hbv:s.den.t dj=.c (.bool b):=by show(s.t dj).v s.r=_;rw[hb];rfl
    obtain⟨hn,h⟩:=A9 h
    have U:CN ops ((j,dj,b)::ρ) s.den.t:=λx hx=>by
     rcases List.mem_cons.1 hx with rfl|hx
     .exact⟨hdj,hbv⟩
     .exact Y x hx
    have W:∀x∈(j,dj,b)::ρ,Aq (o::g) x.2.1=true:=λx hx=>by
     rcases List.mem_cons.1 hx with rfl|hx
     .exact hn
     .exact hnd x hx
    refine known ((j,dj,b)::ρ) b hbv U W (λe=>?_) λe=>?_
    .subst e;cases b<;>exact h
    .subst e;cases J<;>exact h
theorem Zo{ops:Array Oper}{K:St->Option R}{z:R}{Kt:(Nat->V)->Prop}:∀(l:List Seg) (s:St) (t:Nat->V),(∀o∈l.flatMap Seg.ops,o∈ops.toList)->VLe t s.den.t->
  Wn E true ops l s K=some z->(∀s' t',s'.r=s.r->(∀i,Aq ops.toList i=true->yB E ops i=false->s'.t i=s.t i)->VLe t' s'.den.t->K s'=some z->Kt t')->vq P E.h ops s.den.σ (l.flatMap Seg.ops) Kt t:=by
 intro l
 induction l with
 |nil=>intro s t _ ht h hK;exact hK s t rfl (λ_ _ _=>rfl) ht h
 |cons sg l ih=>
  intro s t hsub ht h hK;rw[List.flatMap_cons]at hsub;have O:∀o∈sg.ops,o∈ops.toList:=λo ho=>hsub o (List.mem_append_left _ ho)
  have F:∀o∈l.flatMap Seg.ops,o∈ops.toList:=λo ho=>hsub o (List.mem_append_right _ ho)
  cases sg with
  |one o=>
   unfold Wn at h;split at h
   case h_2=>cases h
   rename_i hg;rw[List.flatMap_cons];show vq P E.h ops s.den.σ (o::l.flatMap Seg.ops) Kt t;unfold vq;rw[hg];cases hal:alM E.h ops o with
   |true=>
    rw[hal]at h;simp only[Bool.and_self,cond_true]at h;split at h
    case h_2=>cases h
    rename_i d hd;obtain⟨hb,h⟩:=A9 h;refine .inr ⟨rfl,d,hd,blE hb,?_⟩;refine ih ⟨AK s.t d (.one .dead),s.r⟩ _ F ?_ h λs2 t2 h2 J h3 h4=>hK s2 t2 h2 (λi B Y=>?_) h3 h4
    .show VLe _ (λi=>(AK s.t d (.one .dead) i).v s.r)
     rw[B2];exact ht.upd (.inl rfl)
    .rw[J i B Y]
     show AK s.t d (.one .dead) i=s.t i;unfold AK;rw[BB λe=>(AN (o:=o) (g:=[]) (DO (g:=[o]) (λo' ho'=>O o' ho') B)).1 (by rw[hd,e])]
     rfl
   |false=>
   rw[hal]at h;simp only[Bool.and_false,cond_false]at h;refine .inl ⟨rfl,?_⟩;have nd:∀i,Aq ops.toList i=true->o.dst≠some i:=λi B=>(AN (o:=o) (g:=[]) (DO (g:=[o]) (λo' ho'=>O o' ho') B)).1
   split at h
   .rename_i y u d z' hmv
    obtain⟨hdst,hdn,hfz,ys,Z,hmq,hvl,W⟩:=mvF_v ht hmv;refine .inr (.inl ⟨ys,d,z'.v s.r,hdst,hdn,hfz,Z,hmq,?_⟩);refine ih ⟨AK (AK s.t y u) d z',s.r⟩ _ F hvl h λs2 t2 h2 J h3 h4=>hK s2 t2 h2 (λi B Y=>?_) h3 h4
    rw[J i B Y];have hid:i≠d:=λe=>nd i B (by rw[hdst,e])
    have hiy:i≠y:=by
     rintro rfl
     rcases W with⟨e,he,hb,W⟩|⟨hx1,hx2⟩
     rotate_left
     .have:yB E ops i=true:=by
       unfold yB;exact List.any_eq_true.2 ⟨o,O o (List.mem_singleton.2 rfl),by rw[hx1,hx2];rfl⟩
      rw[Y]at this;cases this
     unfold AG at W;rw[Option.bind_eq_some_iff]at W;obtain⟨ok,hok,hokd⟩:=W;have hmem:ok∈ops.toList:=by
      rw[<-Array.getElem?_toList]at hok;exact List.mem_of_getElem? hok
     exact(AN (o:=ok) (g:=[]) (DO (g:=[ok]) (λo' ho'=>by rw[List.mem_singleton.1 ho'];exact hmem) B)).1 hokd
    show AK (AK s.t y u) d z' i=s.t i;unfold AK;rw[BB hid];show(bif Nat.beq i y then _ else s.t i)=s.t i;rw[BB hiy];rfl
   split at h
   .rename_i js pu ds hlq
    obtain⟨ys,r,Z,hne,hq,hvl,hnw⟩:=lqF_v hE ht hlq (O o (List.mem_singleton.2 rfl));refine .inr (.inr ⟨ys,r,λp hp=>.inl (Z p hp),hne,hq,?_⟩)
    refine ih ⟨AaV ds (AaV pu (CI js s.t)),s.r⟩ _ F hvl h λs2 t2 h2 J h3 h4=>hK s2 t2 h2 (λi B Y=>?_) h3 h4
    rw[J i B Y];exact hnw i B Y (nd i B)
   split at h
   .rename_i A ha
    have h: @ite _ A.p A.dec (Wn E true ops l ⟨AK (CI A.js s.t) A.d A.y,s.r⟩ K) none=some z:=h;by_cases hA:A.p
    case neg=>rw[if_neg hA]at h;cases h
    rw[if_pos hA]at h;obtain⟨ys,r,Z,hne,hq,hvl,hnw⟩:=appO_v hE ht ha hA;refine .inr (.inr ⟨ys,r,λp hp=>.inl (Z p hp),hne,hq,?_⟩)
    refine ih ⟨AK (CI A.js s.t) A.d A.y,s.r⟩ _ F hvl h λs2 t2 h2 J h3 h4=>hK s2 t2 h2 (λi B Y=>?_) h3 h4
    rw[J i B Y];exact hnw i B (nd i B)
   split at h
   .rename_i A ha
    cases hu:A.o with
    |none=>rw[hu]at h;cases h
    |some u=>
    rw[hu]at h;simp only[Option.bind_some]at h;obtain⟨ys,r,Z,hne,hq,hvl,hdst,f,xs,e,zk,g1,g2,g3,g4,g5⟩:=Zr hE.U ht ha hu;refine .inr (.inr ⟨ys,r,Z,hne,hq,?_⟩);refine ih ⟨AK (AK s.t A.y (A.u u)) A.d (A.z u),s.r⟩ _ F hvl h λs2 t2 h2 J h3 h4=>hK s2 t2 h2 (λi B Y=>?_) h3 h4
    rw[J i B Y];have hid:i≠A.d:=λe=>nd i B (by rw[hdst,e])
    have hiy:i≠A.y:=by
     rintro rfl
     have key:ucB E ops o A.y=true->False:=λhu=>by
      have:yB E ops A.y=true:=by
       unfold yB;refine List.any_eq_true.2 ⟨o,O o (List.mem_singleton.2 rfl),?_⟩;rw[Bool.or_eq_true];exact .inr hu
      rw[Y]at this;cases this
     unfold okU at g5;unfold Xb at g4;unfold ucB at key;rw[g1]at key;simp only[g2,g3]at key;cases hs:alS E.h ops o zk with
     |some y=>
      rw[hs]at g4 key;have g4:y=A.y:=g4;exact key (by rw[g4];exact Nat.beq_refl _)
     |none=>
      rw[hs]at g4 g5 key;have g4:zk=A.y:=g4;have g5:(mvB ops o zk||(dX E zk&&(mvR ops o zk||mvC ops o zk)))=true:=g5;rw[Bool.or_eq_true]at g5;rcases g5 with g5|g5
      .unfold mvB at g5
       rw[bAE]at g5;obtain⟨e1,he1,_,W⟩:=Hs g5.2;unfold AG at W;rw[Option.bind_eq_some_iff]at W;obtain⟨ok,hok,hokd⟩:=W;have hmem:ok∈ops.toList:=by
        rw[<-Array.getElem?_toList]at hok;exact List.mem_of_getElem? hok
       refine(AN (o:=ok) (g:=[]) (DO (g:=[ok]) (λo' ho'=>by rw[List.mem_singleton.1 ho'];exact hmem) B)).1 ?_
       rw[hokd,g4]
      .rw[bAE]at g5
       exact key (by rw[g5.1,g4];exact Nat.beq_refl _)
    show AK (AK s.t A.y (A.u u)) A.d (A.z u) i=s.t i;unfold AK;rw[BB hid];show(bif Nat.beq i A.y then _ else s.t i)=s.t i;rw[BB hiy];rfl
   refine .inl (stepq hE (f:=λy=>s.putX true E.h o.dst y) ht h (λ_ _ h=>h) λs' t' _ hr hi ht' _ _ hy=>?_)
   have hσ:s'.den.σ=s.den.σ:=by show s'.r.map Ab.v=s.r.map Ab.v;rw[hr]
   rw[<-hσ]
   exact ih s' t' F ht' hy λs2 t2 h2 J h3 h4=>hK s2 t2 (h2.trans hr) (λi B Y=>by
    rw[J i B Y,(hi i (nd i B)).1]) h3 h4
  |grp g pk=>
   unfold Wn at h;split at h
   case h_2=>cases h
   rename_i d hpd;have hpd2:pk.dst=some d/\pk.guard=none/\d<E.h.n/\E.h.fz.contains d=false:=by
    unfold ZT at hpd;split at hpd
    case h_2=>cases hpd
    rename_i d' e1 e2;obtain⟨hb,hpd⟩:=A9 hpd;cases hpd;rw[bAE,Bool.not_eq_true']at hb;exact⟨e1,e2,blE hb.1,hb.2⟩
   obtain⟨e1,e2,h3,h4⟩:=hpd2;cases hv:grpB E true ops s g pk with
   |none=>rw[hv]at h;cases h
   |some v=>
    rw[hv]at h;simp only[Option.bind_some]at h;rw[List.flatMap_cons];show vq P E.h ops s.den.σ ((g++[pk])++l.flatMap Seg.ops) Kt t;rw[List.append_assoc];refine pathg hE g [] s t _ (λx Y=>by cases Y) (λx Y=>by cases Y) ht hv λρ' s' t' hr hi ho ht' hρ' hs'=>?_
    rw[hr,Nat.beq_refl]at hs';have hs':Oy ρ' s' pk.op=some v:=hs';have hσ:s'.den.σ=s.den.σ:=by show s'.r.map Ab.v=s.r.map Ab.v;rw[hr]
    show vq P E.h ops s.den.σ (pk::l.flatMap Seg.ops) Kt t';unfold vq;rw[e2];refine .inl ⟨?_,.inl ?_⟩
    .cases hal:alM E.h ops pk with
     |false=>rfl
     |true=>
      obtain⟨_,_,_,hop,_⟩:=Nv hal;rw[hop]at hs';cases hs'
    rw[<-hσ];refine IB ht' hρ' hs' ⟨_,Sub.refl _,?_⟩;rw[e1,hσ];refine⟨h3,?_⟩;simp only[h4,Bool.false_eq_true,if_false]
    refine ih ⟨AK (C5 g s.t) d (.one (.c .bool 0 v)),s.r⟩ (AF t' d (.c (.bool v))) F ?_ h λs2 t2 h2 J h3 h4=>hK s2 t2 h2 (λi hn0 hx0=>by
     have B:Aq ((g++[pk])++l.flatMap Seg.ops) i=true:=DO hsub hn0;unfold Aq at B;rw[List.all_append,List.all_append,bAE,bAE]at B;rw[J i hn0 hx0];show AK (C5 g s.t) d (.one (.c .bool 0 v)) i=s.t i;have hid:i≠d:=by
      rintro rfl
      have:=B.1.2;simp only[List.all_cons,List.all_nil,Bool.and_true,e1,Nat.beq_refl,Bool.not_true]at this;cases this
     unfold AK;rw[BB hid];show C5 g s.t i=s.t i;rw[DV,if_pos (show Aq g i=true from B.1.1)]) h3 h4
    show VLe _ (λi=>(AK (C5 g s.t) d (.one (.c .bool 0 v)) i).v s.r)
    rw[B2];refine VLe.upd ?_ (.inl rfl);intro i;simp only[DV];by_cases B:Aq g i=true
    .rw[if_pos B,(hi i B).2];exact ht i
    .rw[if_neg B];exact .inr ⟨rfl,ho i (by simpa using B)⟩
end head
end Go.Ve

