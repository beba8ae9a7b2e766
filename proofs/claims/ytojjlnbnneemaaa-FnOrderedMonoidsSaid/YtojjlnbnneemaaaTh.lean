/- The typed machine: lists of quiet operations, guards; the head of a region that draws its order. -/
import Derived.Test.YtojjlnbnneemaaaTg
import Derived.Test.YtojjlnbnneemaaaTd
set_option linter.all false
namespace Go.Ve
variable{hh:Cz}{Us:List EnU}{js:List Nat}{g:List Oper}{d i k:Nat}{t t':Nat->V}{op:Op}{o:Oper}{x:Operand}{P:Program}{y:Sl}{s s':St}{ty:Ty}{R:Type}{v v':V}{K:V->Prop}
structure Env where
 Θ:Tab
 Γ:List En
 W:List EnW
 N:List EnN
 h:Cz
 U:List EnU
 M:List EnM
variable{E:Env}
def IT:Op->Option (FuncId×Array Operand)
 |.call c=>match c.callee with
  |.value (.func f)=>some (f,c.args)
  |_=>none
 |_=>none
def Cl.live:Cl->Bool
 |.dead=>false
 |.c (.osl _) _ _=>false
 |.c t _ _=>t.one
 |_=>true
def AbI:Option Sl->Bool
 |some (.one y)=>y.live
 |some _=>true
 |none=>false
theorem live_v(h:AbI (s.ev x)=true):s.den.ev x≠.dead:=by
 unfold AbI at h;split at h
 .rename_i y e
  rw[Bh e];cases y with
  |c t d x=>
   cases t<;>first|(intro B;trivial)|rfl
  |dead=>cases h
  |_=>intro B;trivial
 .rename_i y F e
  rw[Bh e];cases y with
  |one c=>grind
  |_=>intro B;trivial
 grind
def St.liveX(s:St):Operand->Bool
 |.func _=>true
 |x=>AbI (s.ev x)
theorem Xb(h:s.liveX x=true):s.den.ev x≠.dead:=by
 cases x with
 |func f=>
  intro e;have e:fnV f=.dead:=e;unfold fnV at e
  grind
 |_=>exact live_v h
def AaM{R:Type}(E:Env)(s:St)(ty:TypeId)(op:Op)(K:Sl->Option R):Option R:=bif op.operands.toList.all s.liveX then(match IT op with
 |some (f,xs)=>match JG E.Γ s f (xs.toList.map s.ev)with
  |some a=>II a.o λz=>K (a.y z)
  |none=>match Wj E.N s f (xs.toList.map s.ev)with
   |some a=>II a.o λz=>P7 z.1 (K (a.y true z.2)) (K (a.y false z.2))
   |none=>none
 |none=>match cloF s op with
  |some (g,ys)=>match JG E.Γ s g (ys.map some)with
   |some a=>II a.o λz=>K (a.y z)
   |none=>none
  |none=>match cloI E.Θ s op with
  |some (g,ys)=>match JG E.Γ s g (ys.map some)with
   |some a=>II a.o λz=>K (a.y z)
   |none=>none
  |none=>match tq E.Θ s ty op with
   |some (.ok y)=>K y
   |some (.cnd p dec y)=>oif p dec (K y)
   |none=>none)else none
structure EOK(P:Program)(E:Env):Prop where
 Θ:E.Θ.OK P
 Γ:KZ P E.Γ
 W:∀e∈E.W,e.OK P
 N:∀e∈E.N,e.OK P
 U:∀e∈E.U,e.OK P
 M:∀e∈E.M,e.OK P
theorem Iq(hE:EOK P E){ty:TypeId}{K:Sl->Option R}{z:R}(h:AaM E s ty op K=some z):(∀x∈op.operands,s.den.ev x≠.dead)/\∃y,QS P s op y/\K y=some z:=by
 unfold AaM at h;obtain⟨W,h⟩:=A7 h;refine⟨λx U=>Xb (aET.1 W x (by simpa using U)),?_⟩
 split at h
 .rename_i f xs B
  split at h
  case h_2=>
   split at h
   case h_2=>cases h
   rename_i a ha;cases e:a.o with
   |none=>rw[e]at h;cases h
   |some u=>
    rw[e]at h;obtain⟨b,u⟩:=u;refine⟨a.y b u,?_,by cases b<;>exact h⟩
    unfold IT at B;split at B
    case h_2=>cases B
    rename_i c;obtain⟨callee,args,O⟩:=c;split at B
    case h_2=>cases B
    rename_i M F;have F:callee=.value (.func M):=F;subst F;cases B;exact ND hE.N ha e
  rename_i a ha;cases e:a.o with
  |none=>rw[e]at h;cases h
  |some u=>
   rw[e]at h;refine⟨a.y u,?_,h⟩;unfold IT at B;split at B
   case h_2=>cases B
   rename_i c;obtain⟨callee,args,O⟩:=c;split at B
   case h_2=>cases B
   rename_i M F;have F:callee=.value (.func M):=F;subst F;cases B;exact Ps hE.Γ ha e
 .split at h
  .rename_i g ys L
   split at h
   case h_2=>cases h
   rename_i a ha;cases e:a.o with
   |none=>rw[e]at h;cases h
   |some u=>
    rw[e]at h;exact⟨a.y u,Vu hE.Γ L ha e,h⟩
  split at h
  .rename_i g ys L
   split at h
   case h_2=>cases h
   rename_i a ha;cases e:a.o with
   |none=>rw[e]at h;cases h
   |some u=>
    rw[e]at h;exact⟨a.y u,Vt hE.Θ hE.Γ L ha e,h⟩
  split at h
  .rename_i y ha
   exact⟨y,Qf hE.Θ ha trivial,h⟩
  .rename_i p dec y ha
   have h: @ite _ p dec (K y) none=some z:=h;by_cases J:p
   .rw[if_pos J]at h
    exact⟨y,Qf hE.Θ ha J,h⟩
   .rw[if_neg J]at h;cases h
  .cases h
def St.putH(h:Cz)(s:St)(d:Option Nat)(y:Sl):Option St:=match d with
 |none=>none
 |some d=>bif Nat.blt d h.n then(bif h.fz.contains d then(match y.frz with
   |some e=>some ⟨AQ s.t d e,s.r⟩
   |none=>none)else some ⟨AQ s.t d y,s.r⟩)else none
def St.putX(hd:Bool)(h:Cz)(s:St)(d:Option Nat)(y:Sl):Option St:=bif hd then s.putH h d y else s.put h d y
inductive Seg where
 |one (o:Oper)
 |grp (g:List Oper) (pk:Oper)
def Seg.ops:Seg->List Oper
 |.one o=>[o]
 |.grp g pk=>g++[pk]
def Ur:List Oper->List Oper×List Oper
 |[]=>([],[])
 |o::l=>bif o.guard.isSome then(o::(Ur l).1,(Ur l).2)else([],o::l)
def X5:Nat->List Oper->List Seg
 |0,l=>l.map .one
 |_+1,[]=>[]
 |n+1,o::l=>match o.guard with
  |none=>.one o::X5 n l
  |some _=>match Ur l with
   |(g,pk::rest)=>.grp (o::g) pk::X5 n rest
   |(_,[])=>(o::l).map .one
def Nw:∀l,(Ur l).1++(Ur l).2=l
 |[]=>rfl
 |o::l=>by
  unfold Ur;cases e:o.guard.isSome with
  |true=>simp[Nw l]
  |false=>rfl
def MB:∀l:List Oper,(l.map Seg.one).flatMap Seg.ops=l
 |[]=>rfl
 |o::l=>by rw[List.map_cons,List.flatMap_cons,MB l];rfl
def Cq:∀(n:Nat) (l:List Oper),(X5 n l).flatMap Seg.ops=l
 |0,l=>MB l
 |n+1,[]=>rfl
 |n+1,o::l=>by
  unfold X5;split
  .rw[List.flatMap_cons,Cq n l];rfl
  .split
   .rename_i g pk rest e
    rw[List.flatMap_cons,Cq n rest];have:=Nw l;rw[e]at this;rw[<-this];simp[Seg.ops]
   .exact MB _
def valB(s:St)(x:Operand):Option Bool:=match s.ev x with
 |some (.one (.c .bool _ b))=>some b
 |_=>none
theorem valB_v{b:Bool}(h:valB s x=some b):s.den.ev x=.c (.bool b):=by
 unfold valB at h;split at h
 .rename_i d B e
  cases h;rw[Bh e];rfl
 grind
def Df:List Oper->(Nat->Sl)->Nat->Sl
 |[],t=>t
 |o::l,t=>match o.dst with
  |some d=>Df l (AQ t d (.one .dead))
  |none=>Df l t
def Au(g:List Oper)(d:Nat):Bool:=g.all λo=>match o.dst with
 |some e=>!Nat.beq e d
 |none=>true
abbrev Asm:=List (Nat×Nat×Bool)
def W9:Asm->Nat->Option Bool
 |[],_=>none
 |(i,_,v)::ρ,j=>bif Nat.beq i j then some v else W9 ρ j
def YZ:Asm->Nat->Option Bool
 |[],_=>none
 |(_,d,v)::ρ,c=>bif Nat.beq d c then some v else YZ ρ c
def AbR:Sl->Bool
 |.tup []=>true
 |_=>false
def U5(s:St)(x:Operand):Bool:=match s.ev x with
 |some y=>!y.own
 |none=>false
def Oj(ρ:Asm)(s:St):Op->Option Bool
 |.pick (.tmp c) x y=>bif U5 s x&&U5 s y then(match YZ ρ c with
  |some v=>valB s (bif v then x else y)
  |none=>none)else none
 |_=>none
def Acs(h:Cz)(s:St)(d:Option Nat)(v:Bool):Option St:=match d with
 |some d=>bif Nat.blt d h.n&& !h.fz.contains d then some ⟨AQ s.t d (.one (.c .bool 0 v)),s.r⟩else none
 |none=>none
def De(h:Cz)(s:St)(d:Option Nat):Option St:=match d with
 |some d=>bif Nat.blt d h.n then some ⟨AQ s.t d (.tup []),s.r⟩else none
 |none=>some s
def fzD(h:Cz):Option Nat->Bool
 |some d=>h.fz.contains d
 |none=>false
def Mj(E:Env)(hd:Bool)(ρ:Asm)(s:St)(o:Oper)(K:St->Option Bool):Option Bool:=match Oj ρ s o.op with
 |some v=>match Acs E.h s o.dst v with
  |some s'=>K s'
  |none=>none
 |none=>AaM E s o.type o.op λy=>match(bif y.own&& !fzD E.h o.dst then none else s.putX hd E.h o.dst y)with
  |some s'=>K s'
  |none=>none
def onS(o:Option St)(K:St->Option Bool):Option Bool:=match o with
 |some s=>K s
 |none=>none
def CL(E:Env)(hd:Bool)(ops:Array Oper):List Oper->Asm->St->(Asm->St->Option Bool)->Option Bool
 |[],ρ,s,K=>K ρ s
 |o::l,ρ,s,K=>match o.guard with
  |none=>none
  |some (j,want)=>match(ops[j]?).bind (·.dst)with
   |none=>none
   |some e=>bif AbR (s.t e)then onS (De E.h s o.dst) (λs'=>CL E hd ops l ρ s' K)else match W9 ρ j with
    |some v=>bif v==want then Mj E hd ρ s o (λs'=>CL E hd ops l ρ s' K)else onS (De E.h s o.dst) (λs'=>CL E hd ops l ρ s' K)
    |none=>match s.t e with
     |.one (.c .bool _ b)=>bif Au (o::l) e then
      P7 b (bif want then Mj E hd ((j,e,true)::ρ) s o (λs'=>CL E hd ops l ((j,e,true)::ρ) s' K)else onS (De E.h s o.dst) (λs'=>CL E hd ops l ((j,e,true)::ρ) s' K))
       (bif want then onS (De E.h s o.dst) (λs'=>CL E hd ops l ((j,e,false)::ρ) s' K)else Mj E hd ((j,e,false)::ρ) s o (λs'=>CL E hd ops l ((j,e,false)::ρ) s' K))else none
     |_=>none
def grpB(E:Env)(hd:Bool)(ops:Array Oper)(s:St)(g:List Oper)(pk:Oper):Option Bool:=
 CL E hd ops g [] s λρ s'=>bif Nat.beq s'.r.length s.r.length then Oj ρ s' pk.op else none
def YQ(h:Cz)(pk:Oper):Option Nat:=match pk.dst,pk.guard with
 |some d,none=>bif Nat.blt d h.n&& !h.fz.contains d then some d else none
 |_,_=>none
def partS:Bool×List Cl->Option Sl
 |(true,m)=>some (.agg m)
 |(false,y::_)=>some (.one y)
 |(false,[])=>none
def hdS:Sl->Sl
 |.one (.c (.sl _) (_+1) xs)=>.one (.c (.sl .unit) 0 (ZT (H4 xs) ()))
 |.one (.c (.osl _) (_+1) x)=>match x with
  |some xs=>.one (.c (.sl .unit) 0 (ZT (H4 xs) ()))
  |none=>.one .dead
 |_=>.one .dead
theorem hdS_v(r:List Ac)(y:Sl):hdV (y.v r)=(hdS y).v r:=by
 cases y with
 |one c=>
  cases c with
  |c t d x=>
   cases t with
   |sl t=>
    cases d with
    |zero=>rfl
    |succ d=>
     show V.nd true false 0 x.length (λ_ _=>.dead)=V.nd true false 0 (List.replicate x.length ()).length λi k=>([].getD k .dead)
     simp
   |ptr t=>rfl
   |osl t=>
    cases d with
    |zero=>cases x<;>rfl
    |succ d=>
     cases x with
     |none=>rfl
     |some x=>
      show V.nd true false 0 x.length (λ_ _=>.dead)=V.nd true false 0 (List.replicate x.length ()).length λi k=>([].getD k .dead)
      simp
   |_=>rfl
  |_=>rfl
 |_=>rfl
def dX(E:Env)(y:Nat):Bool:=E.h.fz.contains (y+1000000)
def J6(o:Oper)(y:Nat):Bool:=match o.op with
 |.assign (.tmp z)=>Nat.beq z y
 |.move (.tmp z)=>Nat.beq z y
 |_=>false
def stB(o:Oper)(y:Nat):Bool:=match o.op with
 |.store _ (.tmp z) _=>Nat.beq z y
 |_=>false
def alS(h:Cz)(ops:Array Oper)(o:Oper)(z:Nat):Option Nat:=o.after.toList.findSome? λe=>bif Region.binds .any e then(match ops[e.on]? with
 |some c=>bif alM h ops c then(match c.op,c.dst with
  |.move (.tmp y),some z'=>bif Nat.beq z' z then some y else none
  |_,_=>none)else none
 |none=>none)else none
theorem alS_v{h:Cz}{ops:Array Oper}{z y:Nat}(U:alS h ops o z=some y):AlP h ops o z y:=by
 obtain⟨e,Z,B⟩:=List.exists_of_findSome?_eq_some U;cases L:Region.binds .any e with
 |false=>grind
 |true=>
  rw[L]at B;split at B
  case h_2=>grind
  rename_i c W;cases F:alM h ops c with
  |false=>grind
  |true=>
   rw[F]at B;split at B
   case h_2=>cases B
   rename_i Y M J hd;cases O:Nat.beq M z with
   |false=>grind
   |true=>
    rw[O]at B;cases B;exact⟨e,by grind,L,c,W,F,J,by simp_all⟩
def Wo(h:Cz)(ops:Array Oper)(o:Oper)(z:Nat):Nat:=match alS h ops o z with
 |some y=>y
 |none=>z
def okU(h:Cz)(e:Nat->Bool)(ops:Array Oper)(o:Oper)(z:Nat):Bool:=match alS h ops o z with
 |some y=>Ut h ops o (y,.put .dead)
 |none=>mvB ops o z||(e z&&(mvR ops o z||mvC ops o z))
def ucB(E:Env)(ops:Array Oper)(o:Oper)(y:Nat):Bool:=match IT o.op with
 |some (f,xs)=>match J8 E.U f with
  |some e=>match xs.toList[e.S.k]? with
   |some (.tmp z)=>match alS E.h ops o z with
    |some B=>Nat.beq B y
    |none=>dX E z&&Nat.beq z y
   |_=>false
  |none=>false
 |none=>false
def yB(E:Env)(ops:Array Oper)(y:Nat):Bool:=ops.toList.any λo=>(dX E y&&(J6 o y||stB o y))||ucB E ops o y
def mvF(E:Env)(ops:Array Oper)(s:St)(o:Oper):Option (Nat×Sl×Nat×Sl):=match o.op,o.dst with
 |.assign (.tmp y),some d=>bif(s.t y).own&&Nat.blt d E.h.n&& !E.h.fz.contains d&&(mvB ops o y||(dX E y&&mvR ops o y))then some (y,hdS (s.t y),d,s.t y)else none
 |.move (.tmp y),some d=>bif(s.t y).own&&Nat.blt d E.h.n&& !E.h.fz.contains d&&(mvB ops o y||(dX E y&&mvR ops o y))then some (y,hdS (s.t y),d,s.t y)else none
 |.extract (.tmp y) c,some d=>match s.t y with
  |.tup l=>match l[c]? with
   |some q=>match partS q with
    |some z=>bif z.own&&Nat.blt d E.h.n&& !E.h.fz.contains d&&exB ops o y c then some (y,.tup (l.set c (false,[])),d,z)else none
    |none=>none
   |none=>none
  |_=>none
 |_,_=>none
def notT(p:Nat):Operand->Bool
 |.tmp y=>!Nat.beq y p
 |_=>true
def newC:Sl->Option (List Cl)
 |.new lp=>some lp
 |.one (.c (.ptr u) (d+1) z)=>some (AA u d z)
 |_=>none
theorem newC_v{lp:List Cl}(h:newC y=some lp)(r:List Ac):y.v r=Bi true (lp.map Cl.v0):=by
 unfold newC at h;split at h
 .cases h;rfl
 .rename_i u d z
  cases h;show Bi (decide (0<d+1)) (tyV u (d+1-1) z)=_;rw[Bv,dT (Nat.succ_pos _)];rfl
 .cases h
def lqF(E:Env)(ops:Array Oper)(s:St)(o:Oper):Option (List Nat×Option (Nat×Sl)×Option (Nat×Sl)):=match o.op,o.dst with
 |.build t ps,some d=>bif Dc ((ps.toList.map (·.2)).map (Lp s))&&(match jsO ((ps.toList.map (·.2)).map (Lp s))with
   |[]=>false
   |a::l=>(a::l).all (mvB ops o))&&Nat.blt d E.h.n then(match E.Θ.look t with
    |some i=>bif i.agg then(match NA (λk=>i.places[k]?) (Io i.ty) (ps.toList.map λp=>(p.1,s.ev p.2))with
     |some l=>some (jsO ((ps.toList.map (·.2)).map (Lp s)),none,some (d,.agg (bif E.h.fz.contains (2000000+d)then U3 (AA i.ty 0 i.ty.dflt) l else l)))
     |none=>none)else none
    |none=>none)else none
 |.buildSlice t n ps,some d=>bif Dc ((ps.toList.map (·.2)).map (Lp s))&&(match jsO ((ps.toList.map (·.2)).map (Lp s))with
   |[]=>false
   |a::l=>(a::l).all (mvB ops o))&&Nat.blt d E.h.n then(match((E.Θ.look t).bind (·.elem)).bind E.Θ.look with
    |some j=>bif Nat.blt 0 j.ty.w&&Nat.ble (n*j.ty.w) 16777216 then(match NA (λi=>some (i*j.ty.w,j.ty.w)) (Abi n (Io j.ty)) (ps.toList.map λp=>(p.1,s.ev p.2))with
     |some l=>bif l.all Cl.keep then(match Om j.ty j.sd n (l.map (fit j.sd))with
      |some xs=>some (jsO ((ps.toList.map (·.2)).map (Lp s)),none,some (d,.one (.c (.sl j.ty) (j.sd+1) xs)))
      |none=>none)else none
     |none=>none)else none
    |none=>none)else none
 |.store t (.tmp p) x,none=>match newC (s.t p),(s.ev x).bind Sl.cellsO,E.Θ.look t with
  |some lp,some l,some i=>bif(mvB ops o p||(dX E p&&mvR ops o p))&&Nat.blt p E.h.n&&Nat.beq lp.length i.ty.w&&Nat.beq l.length i.ty.w&&l.all Cl.keep&&(jsO ([x].map (Lp s))).all (mvB ops o)&&notT p x then some (jsO ([x].map (Lp s)),some (p,.new (U3 lp l)),none)else none
  |_,_,_=>none
 |_,_=>none
def XP:Op->Option (TypeId×Operand×Operand)
 |.call c=>match c.callee,c.args.toList,c.argTypes.toList with
  |.builtin .append,[x,y],[t,t']=>bif Nat.beq t t' then some (t,x,y)else none
  |_,_,_=>none
 |_=>none
theorem list2{α:Type}{xs:Array α}{x y:α}(h:xs.toList=[x,y]):xs= #[x,y]:=by grind
theorem Acl{t:TypeId}{y:Operand}(h:XP op=some (t,x,y)):op=.call ⟨.builtin .append,#[x,y],#[t,t]⟩:=by
 unfold XP at h;split at h
 case h_2=>grind
 rename_i c;obtain⟨callee,args,J⟩:=c;simp at h;split at h
 case h_2=>grind
 rename_i M L t1 t2 F e;cases B:Nat.beq t1 t2 with
 |false=>grind
 |true=>
  rw[B]at h;cases h;have:=bqE B;subst this;rw[list2 F,list2 e]
def VM(t:Ty)(e:Nat):Option Sl->Option (Nat×List t.T)
 |some (.one (.c (.sl t') (d+1) xs))=>if h:t'=t then some (d,h▸xs)else none
 |some (.one .nil)=>some (e,[])
 |_=>none
def VL(s:St)(t:Ty):Option Sl->Option (Nat×List t.T)
 |some (.one (.c (.sl t') (d+1) ys))=>if h:t'=t then(bif t.noO then some (d,h▸ys)else none)else none
 |y=>match Vy s t s.r.length y with
  |some (d,ys,[])=>some (d,ys)
  |_=>none
structure AO where
 p:Prop
 dec:Decidable p
 js:List Nat
 d:Nat
 y:Sl
def le1(v v':V):Prop:=v=v'\/(v'=.dead/\AS v=false)
def Zf(y:Sl):Sl:=match y.frz with
 |some z=>z
 |none=>.one .dead
theorem Ab3(y:Sl)(r:List Ac):le1 (Go.Ve.frz (y.v r)) ((Zf y).v r):=by
 have B:∀v,AS (Go.Ve.frz v)=false:=by
  intro v
  induction v with
  |many t n f F=>show((List.range n).any λk=>AS (Go.Ve.frz (f k)))=false;grind
  |nd=>rfl
  |_=>rfl
 unfold Zf;cases e:y.frz with
 |none=>exact .inr ⟨rfl,B _⟩
 |some z2=>exact .inl (Sl.frz_v e)
def appO(E:Env)(ops:Array Oper)(s:St)(o:Oper):Option AO:=match XP o.op,o.dst with
 |some (t,x,y),some d=>(match((E.Θ.look t).bind (·.elem)).bind E.Θ.look with
  |some i=>bif Dc ([x,y].map (Lp s))&&(match jsO ([x,y].map (Lp s))with
    |[]=>false
    |a::l=>(a::l).all (mvB ops o))&&Nat.blt d E.h.n&&Nat.blt 0 i.bytes&&Nat.blt 0 i.ty.w then(match VL s i.ty (s.ev y)with
   |some (d',ys)=>match VM i.ty d' (s.ev x)with
    |some (dx,xs)=>bif dOK i.ty d' dx then some ⟨H4 xs+H4 ys<=Oy i.bytes,inferInstance,jsO ([x,y].map (Lp s)),d,(bif E.h.fz.contains d then Zf (.one (.c (.sl i.ty) (dx+1) (Aci xs ys)))else .one (.c (.sl i.ty) (dx+1) (Aci xs ys)))⟩else none
    |none=>none
   |none=>none)else none
  |none=>none)
 |_,_=>none
structure Un where
 α:Type
 o:Option α
 y:Nat
 d:Nat
 u:α->Sl
 z:α->Sl
variable{A:Un}
def Ma(h:Cz)(B:Nat->Bool)(sl:Nat->Nat)(Us:List EnU)(s:St)(o:Oper):Option Un:=match IT o.op,o.dst with
 |some (f,xs),some d=>match J8 Us f with
  |some e=>match xs.toList[e.S.k]? with
   |some (.tmp z)=>match s.t (sl z)with
    |.one (.c t dd x)=>if ht:t=e.S.t then
      bif Nat.beq dd e.S.d&&Nat.blt d h.n&&Nat.blt (sl z) h.n&& !Nat.beq (sl z) d&&B z&&Hj e.S.rs&&((CZ e.S.k xs.toList).map s.ev).all uok&&(CZ e.S.k xs.toList).all s.liveX then
       (match Hs s e.S.ps ((CZ e.S.k xs.toList).map s.ev)with
       |some F=>some ⟨(RT e.S.rs).T×e.S.t.T,P7 (bif e.S.eat then true else AbZ e.S.t (ht▸x)) (e.g F (ht▸x)) none,sl z,d,λu=>bif e.S.eat then .one .dead else .one (.c e.S.t e.S.d u.2),λu=>bif h.fz.contains d then Zf (Nl true e.S.rs u.1)else Nl true e.S.rs u.1⟩
       |none=>none)else none
     else none
    |_=>none
   |_=>none
  |none=>none
 |_,_=>none
def ZN(h:Cz)(e:Nat->Bool)(Us:List EnU)(ops:Array Oper)(s:St)(o:Oper):Option Un:=Ma h (okU h e ops o) (Wo h ops o) Us s o
def ZR:Option (Nat×Sl)->(Nat->Sl)->Nat->Sl
 |some (d,y),t=>AQ t d y
 |none,t=>t
def VF{R:Type}(E:Env)(hd:Bool)(ops:Array Oper):List Seg->St->(St->Option R)->Option R
 |[],s,K=>K s
 |.one o::l,s,K=>match o.guard with
  |none=>bif hd&&alM E.h ops o then(match o.dst with
   |some d=>bif Nat.blt d E.h.n then VF E hd ops l ⟨AQ s.t d (.one .dead),s.r⟩ K else none
   |none=>none)else match mvF E ops s o with
   |some (y,u,d,z)=>VF E hd ops l ⟨AQ (AQ s.t y u) d z,s.r⟩ K
   |none=>match(bif hd then lqF E ops s o else none)with
    |some (js,pu,ds)=>VF E hd ops l ⟨ZR ds (ZR pu (C2 js s.t)),s.r⟩ K
    |none=>match(bif hd then appO E ops s o else none)with
     |some A=>oif A.p A.dec (VF E hd ops l ⟨AQ (C2 A.js s.t) A.d A.y,s.r⟩ K)
     |none=>match(bif hd then ZN E.h (dX E) E.U ops s o else none)with
      |some A=>II A.o λu=>VF E hd ops l ⟨AQ (AQ s.t A.y (A.u u)) A.d (A.z u),s.r⟩ K
      |none=>AaM E s o.type o.op λy=>match s.putX hd E.h o.dst y with
       |some s'=>VF E hd ops l s' K
       |none=>none
  |some _=>none
 |.grp g pk::l,s,K=>match YQ E.h pk with
  |some d=>II (grpB E hd ops s g pk) λv=>VF E hd ops l ⟨AQ (Df g s.t) d (.one (.c .bool 0 v)),s.r⟩ K
  |none=>none
theorem BE{a b:Nat}(h:a≠b):Nat.beq a b=false:=by
 cases e:Nat.beq a b with
 |false=>rfl
 |true=>simp_all
theorem D9:∀(g:List Oper) (t:Nat->Sl) (i:Nat),Df g t i=if Au g i then t i else .one .dead
 |[],t,i=>rfl
 |o::g,t,i=>by
  have F:Au (o::g) i=((match o.dst with
   |some e=>!Nat.beq e i
   |none=>true)&&Au g i):=rfl
  rw[F];unfold Df;cases hd:o.dst with
  |none=>
   exact D9 g t i
  |some d=>
   simp;rw[D9 g];by_cases B:d=i
   .subst B
    simp[AQ]
   .have L:=BE B
    have J:=BE (Ne.symm B);simp[AQ,L,J]
def VLe(t t':Nat->V):Prop:=∀i,le1 (t i) (t' i)
def VLe.refl(t:Nat->V):VLe t t:=λ_=>.inl rfl
theorem VLe.upd(h:VLe t t')(e:le1 v v'):VLe (AJ t d v) (AJ t' d v'):=by
 intro i;unfold AJ;split
 .grind
 .exact h i
theorem VLe.ev{t t':Nat->V}{σ:List V}(h:VLe t t')(x:Operand):le1 (Ms.ev ⟨t,σ⟩ x) (Ms.ev ⟨t',σ⟩ x):=by
 cases x with
 |tmp i=>exact h i
 |_=>exact .inl rfl
def qop_le{σ:List V}(h:VLe t t')(J:∀x∈op.operands,Ms.ev ⟨t',σ⟩ x≠.dead)(F:NZ P σ (Ms.ev ⟨t',σ⟩) op K):NZ P σ (Ms.ev ⟨t,σ⟩) op K:=
 Lg (λx B=>((h.ev x).resolve_right λe=>J x B e.1).symm) F
section head
variable {P:Program}{E:Env}
theorem putH_v{d:Option Nat}{K:(Nat->V)->Prop}(B:s.putH E.h d y=some s')(L:VLe t s.den.t)(hK:∀t',VLe t' s'.den.t->(∀i,d≠some i->t' i=t i)->(∀e,d=some e->(y.own&& !fzD E.h d)=false->AS (t' e)=false)->K t'):QK E.h d t K (y.v s.r):=by
 unfold St.putH at B;split at B
 .cases B
 .rename_i d
  obtain⟨hb,B⟩:=A7 B
  have J:∀v:V,AS (frz v)=false:=by
   intro v
   induction v with
   |many t n f U=>show((List.range n).any λk=>AS (frz (f k)))=false;rw[List.any_eq_false];intro k _;rw[U k];simp
   |nd=>rfl
   |_=>rfl
  refine⟨blE hb,hK _ ?_ (λi Y=>if_neg λe=>Y (by rw[e])) λe Z ho=>?_⟩
  rotate_left
  .cases Z
   unfold AJ;rw[if_pos rfl];split
   .exact J _
   .rename_i F
    rw[Sl.own_v];have F:E.h.fz.contains d=false:=by simpa using F
    have ho:(y.own&& !E.h.fz.contains d)=false:=ho;rw[F]at ho;simpa using ho
  cases M:E.h.fz.contains d with
  |true=>
   rw[M]at B;simp only[cond_true]at B;split at B
   .rename_i O W
    cases B;simp only[if_true];rw[Sl.frz_v W];show VLe _ (λi=>(AQ s.t d O i).v s.r)
    rw[B3];exact L.upd (.inl rfl)
   .cases B
  |false=>
   rw[M]at B;simp only[cond_false,Option.some.injEq]at B;subst B;show VLe _ (λi=>(AQ s.t d y i).v s.r)
   rw[B3];exact L.upd (.inl rfl)
theorem putH_r{d:Option Nat}(B:s.putH E.h d y=some s'):s'.r=s.r/\∃e,d=some e/\∀i,i≠e->s'.t i=s.t i:=by
 unfold St.putH at B;split at B
 .cases B
 .rename_i d
  have key:∀F,∀i,i≠d->AQ s.t d F i=s.t i:=λF i O=>by
   unfold AQ;cases M:Nat.beq i d with
   |false=>rfl
   |true=>simp_all
  cases L:Nat.blt d E.h.n with
  |false=>grind
  |true=>
   rw[L]at B;simp only[cond_true]at B;cases J:E.h.fz.contains d with
   |true=>
    rw[J]at B;split at B
    .cases B;grind
    grind
   |false=>
    rw[J]at B;simp[cond_false,Option.some.injEq]at B;subst B
    grind
theorem AR(h:Au (o::g) d=true):o.dst≠some d/\Au g d=true:=by
 have B:Au (o::g) d=((match o.dst with
  |some e=>!Nat.beq e d
  |none=>true)&&Au g d):=rfl
 rw[B,bAE]at h;refine⟨λhd=>?_,h.2⟩
 simp_all
theorem Xx{l:List V}{c:Nat}:(l.set c .dead).getD k .dead=if k=c then .dead else l.getD k .dead:=by grind
theorem mvF_v{ops:Array Oper}{y:Nat}{u z:Sl}(ht:VLe t s.den.t)(h:mvF E ops s o=some (y,u,d,z)):
  o.dst=some d/\d<E.h.n/\E.h.fz.contains d=false/\∃ys,(∀p∈ys,JE ops o p=true)/\mq t o ys (z.v s.r)/\VLe (AJ (AV ys t) d (z.v s.r)) (St.den ⟨AQ (AQ s.t y u) d z,s.r⟩).t/\
   ((∃e∈o.after,Region.binds .any e=true/\AK ops e.on=some y)\/(dX E y=true/\J6 o y=true)):=by
 have own:∀y,(s.t y).own=true->t y=s.den.t y:=by
  intro y Y;rcases ht y with e|e
  .exact e
  .have h5:AS (s.den.t y)=(s.t y).own:=Sl.own_v (s.t y)
   rw[e.1,Y]at h5;cases h5
 have U:∀ys (V0:V),(∀x,AV ys t x=if x=y then V0 else t x)->le1 V0 (u.v s.r)->VLe (AJ (AV ys t) d (z.v s.r)) (St.den ⟨AQ (AQ s.t y u) d z,s.r⟩).t:=by
  intro ys V0 hk hu;show VLe _ (λi=>(AQ (AQ s.t y u) d z i).v s.r)
  rw[B3];refine VLe.upd ?_ (.inl rfl);rw[B3];intro i;rw[hk];unfold AJ;split
  .exact hu
  .exact ht i
 have kM:∀(y:Nat) (W:Tk) x,AV [(y,W)] t x=if x=y then kapp W (t y)else t x:=by
  intro y W x;unfold AV;by_cases hx:x=y
  .subst hx
   rw[if_pos rfl];show Im (if x=x then some W else none) _=_
   rw[if_pos rfl];rfl
  .rw[if_neg hx]
   show Im (if y=x then some W else none) _=_
   rw[if_neg (Ne.symm hx)];rfl
 have edge:∀y,mvB ops o y=true->∃e∈o.after,Region.binds .any e=true/\AK ops e.on=some y:=by
  intro y Y;unfold mvB at Y;rw[bAE]at Y;exact Hx Y.2
 have BU:∀(B O:Nat),(o.op=.assign (.tmp B)\/o.op=.move (.tmp B))->o.dst=some O->(bif(s.t B).own&&Nat.blt O E.h.n&& !E.h.fz.contains O&&(mvB ops o B||(dX E B&&mvR ops o B))then some (B,hdS (s.t B),O,s.t B)else none)=some (y,u,d,z)->
   o.dst=some d/\d<E.h.n/\E.h.fz.contains d=false/\∃ys,(∀p∈ys,JE ops o p=true)/\mq t o ys (z.v s.r)/\VLe (AJ (AV ys t) d (z.v s.r)) (St.den ⟨AQ (AQ s.t y u) d z,s.r⟩).t/\
   ((∃e∈o.after,Region.binds .any e=true/\AK ops e.on=some y)\/(dX E y=true/\J6 o y=true)):=by
  intro B O F J h;obtain⟨hb,h⟩:=A7 h;simp only[cond_true,Option.some.injEq,Prod.mk.injEq]at h;obtain⟨rfl,rfl,rfl,rfl⟩:=h;simp only[bAE,Bool.not_eq_true']at hb;obtain⟨⟨⟨h1,h2⟩,h3⟩,h4⟩:=hb
  exact⟨J,blE h2,h3,[(B,.put (hdV ((s.t B).v s.r)))],λp hp=>by
   rw[List.mem_singleton.1 hp];show(mvB ops o B||mvR ops o B||mvC ops o B)=true;refine Bool.or_eq_true _ _▸ .inl (show(mvB ops o B||mvR ops o B)=true from ?_)
   rw[Bool.or_eq_true]at h4⊢;exact h4.imp id λh=>by rw[bAE]at h;exact h.2,.inl ⟨B,F,rfl,(own B h1).symm⟩,U _ (hdV ((s.t B).v s.r)) (λx=>kM B (.put (hdV ((s.t B).v s.r))) x) (.inl (hdS_v s.r (s.t B))),(by
   rw[Bool.or_eq_true]at h4;rcases h4 with h4|h4
   .exact .inl (edge B h4)
   .rw[bAE]at h4
    refine .inr ⟨h4.1,?_⟩;unfold J6;rcases F with F|F<;>(rw[F];exact Nat.beq_refl _))⟩
 unfold mvF at h;split at h
 .rename_i B O F J
  exact BU B O (.inl F) J h
 .rename_i B O F J
  exact BU B O (.inr F) J h
 .rename_i B c O F J
  split at h
  case h_2=>cases h
  rename_i l hl;split at h
  case h_2=>cases h
  rename_i q hq;split at h
  case h_2=>cases h
  rename_i z' hz;obtain⟨hb,h⟩:=A7 h;simp only[cond_true,Option.some.injEq,Prod.mk.injEq]at h;obtain⟨rfl,rfl,rfl,rfl⟩:=h;simp only[bAE,Bool.not_eq_true']at hb;obtain⟨⟨⟨h1,h2⟩,h3⟩,h4⟩:=hb;obtain⟨hc,hq'⟩:=List.getElem?_eq_some_iff.1 hq
  -- the part's value
  have hzv:z'.v s.r=(if q.1 then Aj (q.2.map (Cl.v s.r))else(q.2.map (Cl.v s.r)).getD 0 .dead):=by
   obtain⟨b,m⟩:=q;cases b with
   |true=>cases hz;rfl
   |false=>cases m with
    |nil=>cases hz
    |cons a m=>cases hz;rfl
  obtain⟨L,hL⟩:∃L:List V,L=l.map λp=>if p.1 then Aj (p.2.map (Cl.v s.r))else(p.2.map (Cl.v s.r)).getD 0 .dead:=⟨_,rfl⟩
  have hLc:L.getD c .dead=z'.v s.r:=by
   rw[hL,hzv];simp[List.getElem?_map,hq]
  have hcL:c<L.length:=by rw[hL];simpa using hc
  have M:s.den.t B=DH L:=by
   show(s.t B).v s.r=_;rw[hl,hL];rfl
  have hown:(s.t B).own=true:=by
   have h5:AS (s.den.t B)=(s.t B).own:=Sl.own_v (s.t B);rw[<-h5,M];have h6:AS (z'.v s.r)=true:=by rw[Sl.own_v];exact h1
   show AS (V.many .tu L.length λk=>L.getD k .dead)=true
   simp only[AS];rw[List.any_eq_true];exact⟨c,List.mem_range.2 hcL,by rw[hLc];exact h6⟩
  have Z:=own B hown;refine⟨J,blE h2,h3,[(B,.part c)],λp hp=>by rw[List.mem_singleton.1 hp];exact h4,.inr ⟨B,c,L.length,λk=>L.getD k .dead,F,rfl,Z.trans M,hcL,hLc.symm⟩,U _ _ (λx=>kM B (.part c) x) (.inl ?_),?_⟩
  .rw[Z,M]
   show OD c (V.many .tu L.length λk=>L.getD k .dead)=DH ((l.set c (false,[])).map λp=>if p.1 then Aj (p.2.map (Cl.v s.r))else(p.2.map (Cl.v s.r)).getD 0 .dead)
   rw[List.map_set,<-hL];show V.many _ _ _=V.many _ (L.set c V.dead).length _;rw[List.length_set]
   congr 1
   funext k
   exact Xx.symm
  .unfold exB at h4
   rw[bAE]at h4;exact .inl (Hx h4.2)
 .cases h
theorem Uh{f:FuncId}{xs:Array Operand}(h:IT op=some (f,xs)):∃e,op=.call ⟨.value (.func f),xs,e⟩:=by
 unfold IT at h;split at h
 case h_2=>grind
 rename_i c;obtain⟨callee,args,e⟩:=c;split at h
 case h_2=>grind
 simp_all
theorem Vq{l:List Operand}(e:k<l.length)(B:i≠k)(h:l[i]? =some x):x∈CZ k l:=by
 rcases Nat.lt_or_ge i k with hlt|hge
 .exact List.mem_of_getElem? (by rw[OO hlt e];omega)
 .obtain⟨j,rfl⟩:∃j,i=j+1:=⟨i-1,by omega⟩
  exact List.mem_of_getElem? (i:=j) (by rw[OP (by omega) e];grind)
theorem Nx(hU:∀e∈Us,e.OK P){Y:Nat->Bool}{sl:Nat->Nat}{Al:Nat->Nat->Prop}(hal:∀z,sl z=z\/Al z (sl z))(ht:VLe t s.den.t)(h:Ma hh Y sl Us s o=some A){u:A.α}(hu:A.o=some u):
  ∃v r,U4 o.op=true/\LQ P hh.n s.den.σ Al o t [(A.y,.put v)] r/\VLe (I1 o.dst r (AV [(A.y,.put v)] t)) (St.den ⟨AQ (AQ s.t A.y (A.u u)) A.d (A.z u),s.r⟩).t/\o.dst=some A.d/\A.y≠A.d/\A.y<hh.n/\∃f xs e z,IT o.op=some (f,xs)/\J8 Us f=some e/\xs.toList[e.S.k]? =some (.tmp z)/\sl z=A.y/\Y z=true:=by
 unfold Ma at h;split at h
 case h_2=>cases h
 rename_i f xs d J hd;split at h
 case h_2=>cases h
 rename_i e he;split at h
 case h_2=>cases h
 rename_i W hk;split at h
 case h_2=>cases h
 rename_i t0 dd x hy;obtain⟨y,L⟩:∃y,sl W=y:=⟨_,rfl⟩;simp only[L]at h hy;split at h
 case isFalse=>cases h
 rename_i hte;subst hte;generalize hB:(Nat.beq dd e.S.d&&Nat.blt d hh.n&&Nat.blt y hh.n&& !Nat.beq y d&&Y W&&Hj e.S.rs&&((CZ e.S.k xs.toList).map s.ev).all uok&&(CZ e.S.k xs.toList).all s.liveX)=B at h;cases B with
 |false=>cases h
 |true=>
 simp only[bAE,Bool.not_eq_true']at hB;obtain⟨⟨⟨⟨⟨⟨⟨h1,h2⟩,h3⟩,h4⟩,h6⟩,h7⟩,h8⟩,h9⟩:=hB;simp only[cond_true]at h;split at h
 case h_2=>cases h
 rename_i z hz;cases h;obtain⟨⟨M,F,hft⟩,hfe⟩:=QW hU he;have U:=J;obtain⟨ats,J⟩:=Uh J;have hdd:=bqE h1;have hyd:y≠d:=λe=>by rw[e,Nat.beq_refl]at h4;cases h4
 have hks:e.S.k<xs.toList.length:=(List.getElem?_eq_some_iff.1 hk).1;have hu:P7 (bif e.S.eat then true else AbZ e.S.t x) (e.g z x) none=some u:=hu;obtain⟨hho,hu⟩:=A7 hu;have hu:e.g z x=some u:=hu;have O:0<e.S.d:=by
  unfold O5.ok at F;simp only[bAE]at F;exact blE F.1.1
 have hnd:∃s sz n f,cV e.S.t e.S.d x=.nd s true sz n f:=by
  unfold O5.ok at F;simp only[bAE]at F;exact treeND O F.2
 have hhold:Lu (cV e.S.t e.S.d x)\/(bif e.S.eat then V.dead else cV e.S.t e.S.d u.2)=.dead:=by
  cases he:e.S.eat with
  |true=>exact .inr rfl
  |false=>
   rw[he]at hho;exact .inl (AbY O hho)
 have hty:t y=cV e.S.t e.S.d x:=by
  have e1:s.den.t y=cV e.S.t e.S.d x:=by
   show(s.t y).v s.r=_;rw[hy,hdd];rfl
  rcases ht y with e2|⟨e2,_⟩
  .rw[e2,e1]
  .obtain⟨_,_,_,_,e3⟩:=hnd
   rw[e1,e3]at e2;cases e2
 obtain⟨k1,k2⟩:=AaK hks hz h8;have hc:=hft z x u hu;rw[hfe]at M hc;have hzy:W=y\/Al W y:=by
  rcases hal W with h|h
  .exact .inl (h.symm.trans L)
  .rw[L]at h;exact .inr h
 have hlq:=ZD (Al:=Al) (P:=P) (N:=hh.n) (σ:=s.den.σ) (t:=t) J hd (blE h2) (blE h3) hyd M (by rw[<-Array.getElem?_toList];exact hk) hzy (Sub.of_eq hty) hnd hhold (by simpa using k1) (λi x' hik hx=>by
  have hx:xs.toList[i]? =some x':=by rw[Array.getElem?_toList];exact hx
  have hl:=aET.1 h9 x' (Vq hks hik hx);have hev:Ms.ev ⟨t,s.den.σ⟩ x'=s.den.ev x':=(ht.ev (σ:=s.den.σ) x').resolve_right λe=>Xb hl e.1
  rw[hev];exact k2 i x' hik hx) hc
 have e2:AV [(y,.put (bif e.S.eat then .dead else cV e.S.t e.S.d u.2))] t=AJ t y (bif e.S.eat then .dead else cV e.S.t e.S.d u.2):=by
  funext i
  unfold AV AJ;by_cases hi:i=y
  .subst hi
   rw[if_pos rfl];show Im (if i=i then some (.put _)else none) _=_
   rw[if_pos rfl];rfl
  .rw[if_neg hi]
   show Im (if y=i then some (.put _)else none) _=_
   rw[if_neg (Ne.symm hi)];rfl
 have e3:∀Z:Sl,(St.den ⟨AQ (AQ s.t y (bif e.S.eat then Sl.one .dead else .one (.c e.S.t e.S.d u.2))) d Z,s.r⟩).t=AJ (AJ s.den.t y (bif e.S.eat then .dead else cV e.S.t e.S.d u.2)) d (Z.v s.r):=by
  intro Z;show(λi=>(AQ (AQ s.t y _) d _ i).v s.r)=_
  rw[B3]
  congr 1
  show(λi=>(AQ s.t y _ i).v s.r)=_
  rw[B3]
  congr 1
  cases e.S.eat<;>rfl
 have e4:(Nl true e.S.rs u.1).v s.r=NP e.S.rs u.1:=by rw[NQ _ _ _ h7,Dx]
 have hfz:∀v:V,AS (Go.Ve.frz v)=false:=by
  intro v
  induction v with
  |many t n f ih=>show((List.range n).any λk=>AS (Go.Ve.frz (f k)))=false;rw[List.any_eq_false];intro k _;rw[ih k];simp
  |nd=>rfl
  |_=>rfl
 cases hf:hh.fz.contains d with
 |false=>
  refine⟨_,_,by rw[J];rfl,hlq,?_,hd,hyd,blE h3,f,xs,e,W,U,he,hk,L,h6⟩
  show VLe _ (St.den ⟨AQ (AQ s.t y (bif e.S.eat then Sl.one .dead else .one (.c e.S.t e.S.d u.2))) d (bif false then Zf (Nl true e.S.rs u.1)else Nl true e.S.rs u.1),s.r⟩).t;rw[e3,hd,e2];show VLe (AJ _ d _) (AJ _ d ((Nl true e.S.rs u.1).v s.r));rw[e4];exact VLe.upd (ht.upd (.inl rfl)) (.inl rfl)
 |true=>
  refine⟨_,_,by rw[J];rfl,hlq.frzR hd (blE h2),?_,hd,hyd,blE h3,f,xs,e,W,U,he,hk,L,h6⟩
  show VLe _ (St.den ⟨AQ (AQ s.t y (bif e.S.eat then Sl.one .dead else .one (.c e.S.t e.S.d u.2))) d (bif true then Zf (Nl true e.S.rs u.1)else Nl true e.S.rs u.1),s.r⟩).t;rw[e3,hd,e2];show VLe (AJ _ d _) (AJ _ d ((Zf (Nl true e.S.rs u.1)).v s.r));refine VLe.upd (ht.upd (.inl rfl)) ?_;unfold Zf;cases hz2:(Nl true e.S.rs u.1).frz with
  |none=>exact .inr ⟨rfl,hfz _⟩
  |some z2=>
   left;show _=z2.v s.r;rw[<-e4];exact Sl.frz_v hz2
theorem Yq(W:∀e∈Us,e.OK P){ops:Array Oper}(O:VLe t s.den.t){L:Nat->Bool}(h:ZN hh L Us ops s o=some A){u:A.α}(M:A.o=some u):
  ∃ys r,(∀p∈ys,JE ops o p=true\/Ut hh ops o p=true)/\U4 o.op=true/\LQ P hh.n s.den.σ (AlP hh ops o) o t ys r/\VLe (I1 o.dst r (AV ys t)) (St.den ⟨AQ (AQ s.t A.y (A.u u)) A.d (A.z u),s.r⟩).t/\o.dst=some A.d/\∃f xs e z,IT o.op=some (f,xs)/\J8 Us f=some e/\xs.toList[e.S.k]? =some (.tmp z)/\Wo hh ops o z=A.y/\okU hh L ops o z=true:=by
 obtain⟨v,r,h1,h2,Z,Y,_,_,f,xs,e,z,g1,g2,g3,B,F⟩:=Nx W (λz=>by
  unfold Wo;cases J:alS hh ops o z with
  |none=>exact .inl rfl
  |some y=>exact .inr (alS_v J)) O h M
 refine⟨_,r,λp U=>?_,h1,h2,Z,Y,f,xs,e,z,g1,g2,g3,B,F⟩
 rw[List.mem_singleton.1 U];unfold okU at F;unfold Wo at B;cases J:alS hh ops o z with
 |none=>
  rw[J]at B F;have B:z=A.y:=B;left;show(mvB ops o A.y||mvR ops o A.y||mvC ops o A.y)=true
  grind
 |some y=>
  rw[J]at B F;have B:y=A.y:=B;rw[B]at F;exact .inr F
theorem lqF_v(hE:EOK P E){ops:Array Oper}{pu ds:Option (Nat×Sl)}(ht:VLe t s.den.t)(h:lqF E ops s o=some (js,pu,ds))(hmo:o∈ops.toList):
  ∃ys r,(∀p∈ys,JE ops o p=true)/\U4 o.op=true/\LQ P E.h.n s.den.σ (AlP E.h ops o) o t ys r/\VLe (I1 o.dst r (AV ys t)) (St.den ⟨ZR ds (ZR pu (C2 js s.t)),s.r⟩).t/\
   (∀i,Au ops.toList i=true->yB E ops i=false->o.dst≠some i->ZR ds (ZR pu (C2 js s.t)) i=s.t i):=by
 have own:∀y,AS (t y)=(s.t y).own:=by
  intro y;have h5:AS (s.den.t y)=(s.t y).own:=Sl.own_v (s.t y);rcases ht y with e|⟨e1,e2⟩
  .rw[e];exact h5
  .rw[e1]at h5;rw[e2,<-h5];rfl
 have hev:∀x,s.den.ev x≠.dead->Ms.ev ⟨t,s.den.σ⟩ x=s.den.ev x:=λx hx=>((ht.ev (σ:=s.den.σ) x).resolve_right λe=>hx e.1)
 have edge:∀y,mvB ops o y=true->∃e∈o.after,Region.binds .any e=true/\AK ops e.on=some y:=by
  intro y J;unfold mvB at J;rw[bAE]at J;exact Hx J.2
 have notW:∀y i,Au ops.toList i=true->mvB ops o y=true->i≠y:=by
  rintro y i hn J rfl
  obtain⟨e,_,_,hed⟩:=edge i J;unfold AK at hed;rw[Option.bind_eq_some_iff]at hed;obtain⟨ok,hok,hokd⟩:=hed;have hmem:ok∈ops.toList:=by
   rw[<-Array.getElem?_toList]at hok;exact List.mem_of_getElem? hok
  have:Au [ok] i=true:=by
   unfold Au at hn⊢;rw[aET]at hn⊢;exact λo ho=>hn o (by rw[List.mem_singleton.1 ho];exact hmem)
  exact(AR this).1 hokd
 have Y:∀(js:List Nat) i,(∀y∈js,mvB ops o y=true)->Au ops.toList i=true->C2 js s.t i=s.t i:=by
  intro js i hj hn;unfold C2;have:js.contains i=false:=by
   cases hc:js.contains i with
   |false=>rfl
   |true=>exact absurd rfl (notW i i hn (hj i (by simpa using hc)))
  rw[this];rfl
 have kill:∀(js:List Nat) (xs:List Operand),xs.map (IH t)=xs.map (Lp s)->js=jsO (xs.map (Lp s))->VLe (AV ((Bj t xs).map λy=>(y,.all)) t) (λi=>(C2 js s.t i).v s.r):=by
  intro js xs hx hj i;rw[Dn,CP hx,<-hj];show le1 _ ((bif js.contains i then Sl.one Cl.dead else s.t i).v s.r);by_cases W:i∈js
  .have:js.contains i=true:=by simpa using W
   rw[if_pos W,this];exact .inl rfl
  .have:js.contains i=false:=by simpa using W
   rw[if_neg W,this];exact ht i
 unfold lqF at h;split at h
 case h_4=>cases h
 .-- a struct
  rename_i ty ps d M F;obtain⟨xs,L⟩:∃xs,xs=ps.toList.map (·.2):=⟨_,rfl⟩
  rw[<-L]at h;have B:=QI own xs;obtain⟨hb,h⟩:=A7 h;simp only[bAE]at hb;obtain⟨⟨Z,h2⟩,h3⟩:=hb;have h3:d<E.h.n:=blE h3
  have U:∀y∈jsO (xs.map (Lp s)),mvB ops o y=true:=by
   intro y J;split at h2
   .cases h2
   .rename_i a l e;rw[e]at J;exact aET.1 h2 y J
  split at h
  case h_2=>cases h
  rename_i i W;obtain⟨hag,h⟩:=A7 h;split at h
  case h_2=>cases h
  rename_i l hl;cases h;obtain⟨k1,k2⟩:=Mf (ev:=Ms.ev ⟨t,s.den.σ⟩) _ _ _ (λp _=>hev p.2) hl
  rw[JA]at k2;have hbi:=hE.Θ.bd W;rw[hag]at hbi;obtain⟨l',hl'⟩:∃l',l'=(bif E.h.fz.contains (2000000+d)then U3 (AA i.ty 0 i.ty.dflt) l else l):=⟨_,rfl⟩
  have O:Sub (Aj (l.map (Cl.v s.r))) (Aj (l'.map (Cl.v s.r))):=by
   rw[hl'];cases E.h.fz.contains (2000000+d)with
   |false=>exact Sub.refl _
   |true=>
    show Sub (V.many _ _ _) (V.many _ _ _);refine⟨λk=>((U3 (AA i.ty 0 i.ty.dflt) l).map (Cl.v s.r)).getD k .dead,by simp[MD],λk _=>W1 s.r _ _ k⟩
  rw[<-hl'];refine⟨_,_,λp hp=>?_,by rw[M];rfl,(ZF (Al:=AlP E.h ops o) M F h3 hbi (by rw[<-L,B];exact Z) k1 k2).sub (λ_ h=>h) (λ_ _=>Sub.refl _) O,?_,λi hn hx hd=>?_⟩
  .rw[<-L,CP B]at hp
   obtain⟨y,J,rfl⟩:=List.mem_map.1 hp;exact U y J
  .rw[F,<-L]
   show VLe (AJ _ d (Aj (l'.map (Cl.v s.r)))) (λi=>(AQ (C2 _ s.t) d (.agg l') i).v s.r)
   rw[B3];exact(kill _ xs B rfl).upd (.inl rfl)
  .show AQ (C2 _ s.t) d _ i=_
   unfold AQ;rw[BE λe=>hd (by rw[F,e])]
   exact Y _ i U hn
 .-- a slice's literal
  rename_i ty n ps d M F;obtain⟨xs,L⟩:∃xs,xs=ps.toList.map (·.2):=⟨_,rfl⟩
  rw[<-L]at h;have B:=QI own xs;obtain⟨hb,h⟩:=A7 h;simp only[bAE]at hb;obtain⟨⟨Z,h2⟩,h3⟩:=hb;have h3:d<E.h.n:=blE h3
  have U:∀y∈jsO (xs.map (Lp s)),mvB ops o y=true:=by
   intro y J;split at h2
   .cases h2
   .rename_i a l e;rw[e]at J;exact aET.1 h2 y J
  split at h
  case h_2=>cases h
  rename_i j hj;obtain⟨e,hsl,_⟩:=Dq hE.Θ hj;obtain⟨hb2,h⟩:=A7 h;simp only[bAE]at hb2;have hw:=LT hb2.1;have hnw:=blE hb2.2;split at h
  case h_2=>cases h
  rename_i l hl;obtain⟨hk,h⟩:=A7 h;split at h
  case h_2=>cases h
  rename_i zs hzs;cases h;obtain⟨k1,k2⟩:=Mf (ev:=Ms.ev ⟨t,s.den.σ⟩) _ _ _ (λp _=>hev p.2) hl
  rw[Wx s.r j.ty n hw]at k2;obtain⟨p1,p2,p3⟩:=PE s.r n _ zs hzs
  have O:Sub (.nd true true j.ty.w n λi k=>(l.map (Cl.v s.r)).getD (i*j.ty.w+k) .dead) (cV (.sl j.ty) (j.sd+1) zs):=by
   show Sub _ (V.nd true true j.ty.w zs.length _);rw[p1];refine⟨_,rfl,λi k W hk=>?_⟩
   have:=p3 i k W hk;rw[List.map_map]at this;have e:(Cl.v s.r∘fit j.sd)=Cl.v s.r:=funext λy=>(fitO_v _ s.r y).1
   rw[e]at this;exact this
  refine⟨_,_,λp hp=>?_,by rw[M];rfl,(Nk (Al:=AlP E.h ops o) M F h3 hsl hw hnw (by rw[<-L,B];exact Z) k1 k2 ?_).sub (λ_ h=>h) (λ_ _=>Sub.refl _) O,?_,λi hn hx hd=>?_⟩
  .rw[<-L,CP B]at hp
   obtain⟨y,J,rfl⟩:=List.mem_map.1 hp;exact U y J
  .intro v hv
   obtain⟨y,J,rfl⟩:=List.mem_map.1 hv;exact(Xh (aET.1 hk y J)).1
  .rw[F,<-L]
   show VLe (AJ _ d _) (λi=>(AQ (C2 _ s.t) d _ i).v s.r)
   rw[B3];exact(kill _ xs B rfl).upd (.inl rfl)
  .show AQ (C2 _ s.t) d _ i=_
   unfold AQ;rw[BE λe=>hd (by rw[F,e])]
   exact Y _ i U hn
 .-- a store
  rename_i ty p x M F;split at h
  case h_2=>cases h
  rename_i lp l i hp hl W;obtain⟨hb,h⟩:=A7 h;simp only[cond_true,Option.some.injEq,Prod.mk.injEq]at h;obtain⟨rfl,rfl,rfl⟩:=h;simp only[bAE,Bool.or_eq_true]at hb;obtain⟨⟨⟨⟨⟨⟨Z,h2⟩,h3⟩,h4⟩,h5⟩,h6⟩,h7⟩:=hb;have h2:p<E.h.n:=blE h2;have h3:=bqE h3;have h4:=bqE h4;obtain⟨y,J,hyl⟩:=Option.bind_eq_some_iff.1 hl;obtain⟨g1,g2,g3⟩:=Ug (r:=s.r) hyl;have hx:Ms.ev ⟨t,s.den.σ⟩ x=y.v s.r:=by
   rw[<-Bh J];refine hev x ?_;rw[Bh J];intro e;rw[e]at g1;cases g1
  have htp:t p=Bi true (lp.map Cl.v0):=by
   have e:s.den.t p=Bi true (lp.map Cl.v0):=newC_v hp s.r;rcases ht p with h|⟨h,_⟩
   .rw[h,e]
   .rw[e]at h;cases h
  have hxp:x≠.tmp p:=by
   rintro rfl
   have h7:(!Nat.beq p p)=true:=h7;rw[Nat.beq_refl]at h7;cases h7
  have B:=QI own [x];have hlv:l.map (Cl.v s.r)=l.map Cl.v0:=List.map_congr_left λc hc=>(Xh (aET.1 h5 c hc)).2
  have U:∀y∈jsO ([x].map (Lp s)),mvB ops o y=true:=aET.1 h6;have hti:=hE.Θ.ty W
  have hlq:=ZE (Al:=AlP E.h ops o) (P:=P) (N:=E.h.n) (σ:=s.den.σ) (t:=t) M F hti htp (by simpa using h3) h2 hxp (by rw[hx];exact g1) (by rw[hx,g2];simpa using h4)
   (by
    rw[hx,g2];intro v hv;obtain⟨c,hc,rfl⟩:=List.mem_map.1 hv;exact(Xh (aET.1 h5 c hc)).1)
   (by
    rw[hx,g2];intro v hv;obtain⟨c,hc,rfl⟩:=List.mem_map.1 hv;exact g3 c hc)
  rw[hx,g2,hlv]at hlq;have hnp:p∉Bj t [x]:=by
   intro hm;rw[CP B]at hm;cases x with
   |tmp z=>
    have hz:z≠p:=λe=>hxp (by rw[e])
    have hm:p∈jsO [bif(s.t z).own then some z else none]:=hm;cases ho:(s.t z).own with
    |true=>rw[ho]at hm;exact hz (List.mem_singleton.1 hm).symm
    |false=>rw[ho]at hm;cases hm
   |const v=>cases hm
   |global g=>cases hm
   |func f=>cases hm
  have O:Sub (Bi true (l.map Cl.v0)) (Bi true ((U3 lp l).map Cl.v0)):=by
   unfold Bi;have e:((U3 lp l).map Cl.v0).length=(l.map Cl.v0).length:=by simp[MD]
   rw[e];refine⟨_,rfl,λi k W hk=>?_⟩
   obtain rfl:i=0:=by omega
   exact Z2 lp l k
  refine⟨(p,.put (Bi true ((U3 lp l).map Cl.v0)))::(Bj t [x]).map λy=>(y,.all),.dead,λq hq=>?_,by rw[M];rfl,hlq.sub (λz hz=>?_) (λz v=>?_) (Sub.refl _),?_,λi hn hx hd=>?_⟩
  .rcases List.mem_cons.1 hq with rfl|hq
   .show(mvB ops o p||mvR ops o p||mvC ops o p)=true
    rcases Z with Z|Z
    .rw[Z];rfl
    .rw[Z.2,Bool.or_true];rfl
   .rw[CP B]at hq
    obtain⟨y,J,rfl⟩:=List.mem_map.1 hq;exact U y J
  .by_cases hzp:z=p
   .subst hzp;rw[HZ];simp
   .rw[HY hzp]at hz⊢;exact hz
  .by_cases hz:z=p
   .subst hz;rw[HZ,HZ];exact O
   .rw[HY hz,HY hz];exact Sub.refl _
  .rw[F]
   show VLe (AV _ t) (λi=>(AQ (C2 _ s.t) p (.new (U3 lp l)) i).v s.r)
   rw[B3];have hk:=kill _ [x] B rfl;intro i;unfold AJ;by_cases W:i=p
   .subst W
    rw[if_pos rfl];unfold AV;rw[HZ];exact .inl rfl
   .rw[if_neg W]
    have:=hk i;unfold AV at this⊢;rw[HY W];exact this
  .show AQ (C2 _ s.t) p _ i=_
   unfold AQ;have hip:i≠p:=by
    rcases Z with Z|Z
    .exact notW p i hn Z
    .rintro rfl
     have:yB E ops i=true:=by
      unfold yB;refine List.any_eq_true.2 ⟨o,hmo,?_⟩;have e:stB o i=true:=by unfold stB;rw[M];exact Nat.beq_refl i
      rw[Z.1,e,Bool.or_true];rfl
     rw[hx]at this;cases this
   rw[BE hip];exact Y _ i U hn
theorem own_le(F:VLe t s.den.t)(y:Nat):AS (t y)=(s.t y).own:=by
 have B:AS (s.den.t y)=(s.t y).own:=Sl.own_v (s.t y);rcases F y with e|⟨L,J⟩
 .grind
 .rw[L]at B;rw[J,<-B];rfl
theorem AbD{ops:Array Oper}{y:Nat}(hn:Au ops.toList i=true)(L:mvB ops o y=true):i≠y:=by
 rintro rfl
 unfold mvB at L;rw[bAE]at L;obtain⟨e,_,_,B⟩:=Hx L.2;unfold AK at B;rw[Option.bind_eq_some_iff]at B;obtain⟨ok,J,F⟩:=B;have M:=by
  rw[<-Array.getElem?_toList]at J;exact List.mem_of_getElem? J
 have:Au [ok] i=true:=by
  unfold Au at hn⊢
  grind
 exact(AR this).1 F
theorem Acd{ops:Array Oper}(e:∀y∈js,mvB ops o y=true)(hn:Au ops.toList i=true):C2 js s.t i=s.t i:=by
 unfold C2;have:js.contains i=false:=by
  cases B:js.contains i with
  |false=>rfl
  |true=>exact absurd rfl (AbD hn (e i (by grind)))
 grind
theorem Acc(F:VLe t s.den.t){xs:List Operand}(B:xs.map (IH t)=xs.map (Lp s))(J:js=jsO (xs.map (Lp s))):VLe (AV ((Bj t xs).map λy=>(y,.all)) t) (λi=>(C2 js s.t i).v s.r):=by
 intro i;rw[Dn,CP B,<-J];show le1 _ ((bif js.contains i then Sl.one Cl.dead else s.t i).v s.r);by_cases e:i∈js
 .have:js.contains i=true:=by grind
  rw[if_pos e,this];exact .inl rfl
 .have:js.contains i=false:=by grind
  rw[if_neg e,this];exact F i
def onlyS(s:St)(y:Operand):St:=⟨λi=>match y with
 |.tmp z=>bif Nat.beq i z then s.t i else .one .dead
 |_=>.one .dead,s.r⟩
theorem Pc{N:Nat}(ht:VLe t s.den.t){x y:Operand}{ys:List ty.T}(hyo:y∈op.operands)(h:VL s ty (s.ev y)=some (d,ys)):
  ∀(C:Ctx) (ρ:Nat->Value) (F:Nat->Nat->Prop) (a:Act) (w:World) (D:Nat->Prop) (T:Nat->Nat->Prop) (t':Nat->V),(∀z∈Hu op,t' z=t z)->PR C N s.den.σ ρ F t' a w D T->
   ∃Fy,VB D w ty.w ys.length (λi k=>(tyV ty d (ys.getD i ty.dflt)).getD k .dead) (a.eval y) Fy/\(∀i k c,i<ys.length->k<ty.w->Fy i k c->opF t' T [x,y] 1 c)/\
    ∀i k i' k' c,i<ys.length->k<ty.w->i'<ys.length->k'<ty.w->(i≠i'\/k≠k')->Fy i k c->¬Fy i' k' c:=by
 intro C ρ F a w D T t' hag hp;have Z:∀v,s.ev y=some v->v.v s.r≠.dead->Ms.ev ⟨t',s.den.σ⟩ y=v.v s.r:=by
  intro v hv U;rw[<-Bh hv]at U⊢;have h1:Ms.ev ⟨t,s.den.σ⟩ y=s.den.ev y:=((ht.ev (σ:=s.den.σ) y).resolve_right λe=>U e.1)
  rw[<-h1];cases y with
  |tmp z=>exact hag z (DD hyo)
  |const v=>rfl
  |global g=>rfl
  |func f=>rfl
 unfold VL at h;split at h
 .rename_i t1 d1 ys1 B
  split at h
  case isFalse=>cases h
  rename_i e;subst e;obtain⟨hno,h⟩:=A7 h;cases h;have hv:=Z _ B (by intro e;cases e)
  have hr:=hp.opF_rel (xs:=[x,y]) (j:=1) (x:=y) rfl;rw[hv]at hr;exact WG (R:=Am s.den.σ ρ w) hr λi k hi hk=>DC _ _ _ k hno hk
 .rename_i U
  split at h
  case h_2=>cases h
  rename_i d1 ys1 B;cases h
  -- the value's slot owns nothing
  obtain⟨L,J⟩:∃L,L=onlyS s y:=⟨_,rfl⟩;have W:L.den.σ=s.den.σ:=by rw[J];rfl
  have hs2:L.ev y=s.ev y:=by
   rw[J];cases y with
   |tmp z=>
    show some (bif Nat.beq z z then s.t z else .one .dead)=some (s.t z);rw[Nat.beq_refl];rfl
   |const v=>rfl
   |global g=>rfl
   |func f=>rfl
  have hdn:∀z,y=.tmp z->(t' z=s.den.t z/\(s.t z).own=false/\z<N):=by
   intro z hz;subst hz;have B:Vy s ty s.r.length (some (s.t z))=some (d,ys,[]):=B
   have hnotown:(s.t z).own=false:=by
    have B:=(XO B).1;unfold Vx at B;split at B
    case h_4=>cases B
    .rename_i e;rw[Option.some.inj e];rfl
    .rename_i e;rw[Option.some.inj e];rfl
    .rename_i e;rw[Option.some.inj e];rfl
   have M:(s.t z).v s.r≠.dead:=by
    have B:=(XO B).1;unfold Vx at B;split at B
    case h_4=>cases B
    .rename_i e;rw[Option.some.inj e];intro e';cases e'
    .rename_i e;rw[Option.some.inj e];intro e';cases e'
    .rename_i e;rw[Option.some.inj e];intro e';cases e'
   have e1:t' z=s.den.t z:=Z (s.t z) rfl M;refine⟨e1,hnotown,Nat.lt_of_not_le λhz=>?_⟩
   have:=hp.dd z hz;rw[e1]at this;exact M this
  have O:∀i,L.den.t i=.dead\/(L.den.t i=t' i/\AS (t' i)=false):=by
   intro i;rw[J];cases y with
   |tmp z=>
    show(bif Nat.beq i z then s.t i else .one .dead).v s.r=.dead\/_;by_cases Y:i=z
    .subst Y
     obtain⟨e1,e2,_⟩:=hdn i rfl;right;refine⟨?_,?_⟩
     .show(bif Nat.beq i i then s.t i else .one .dead).v s.r=_
      rw[Nat.beq_refl,e1];rfl
     .rw[e1]
      have h5:AS (s.den.t i)=(s.t i).own:=Sl.own_v (s.t i);rw[h5];exact e2
    .rw[BE Y];exact .inl rfl
   |const v=>exact .inl rfl
   |global g=>exact .inl rfl
   |func f=>exact .inl rfl
  have hcr:=hp.cr (t2:=L.den.t) O;have hdd:∀i,N<=i->L.den.t i=.dead:=by
   intro i hi;rcases O i with h|⟨h,_⟩
   .exact h
   .rw[h];exact hp.dd i hi
  have hy2:Vy L ty s.r.length (L.ev y)=some (d,ys,[]):=by rw[hs2,J];exact B
  rw[<-W]at hcr;obtain⟨⟨Fy,h1,h2,h3⟩,_⟩:=IW (s:=L) hcr hdd hy2;exact⟨Fy,h1,λi k c hi hk hF=>(by obtain⟨j,hj,_⟩:=h2 i k c hi hk hF;cases hj),h3⟩
theorem Ye(W:VLe t s.den.t){Y M:Nat}{xs:List ty.T}(B:VM ty Y (s.ev x)=some (M,xs)):
  Sub (Ms.ev ⟨t,s.den.σ⟩ x) (.nd true true ty.w xs.length λi k=>(tyV ty M (xs.getD i ty.dflt)).getD k .dead):=by
 have J:∀v,s.ev x=some v->v.v s.r≠.dead->Ms.ev ⟨t,s.den.σ⟩ x=v.v s.r:=by
  intro v U F;rw[<-Bh U]at F⊢;exact(W.ev x).resolve_right λe=>F e.1
 unfold VM at B;split at B
 .rename_i t1 Z O L
  split at B
  case isFalse=>grind
  rename_i e;subst e;cases B;rw[J _ L (by intro e;cases e)]
  exact Sub.refl _
 .rename_i L
  cases B;rw[J _ L (by intro e;cases e)]
  exact .inr ⟨rfl,_,_,_,rfl⟩
 grind
theorem appO_v(hE:EOK P E){ops:Array Oper}{A:AO}(ht:VLe t s.den.t)(h:appO E ops s o=some A)(hA:A.p):
  ∃ys r,(∀p∈ys,JE ops o p=true)/\U4 o.op=true/\LQ P E.h.n s.den.σ (AlP E.h ops o) o t ys r/\VLe (I1 o.dst r (AV ys t)) (St.den ⟨AQ (C2 A.js s.t) A.d A.y,s.r⟩).t/\
   (∀i,Au ops.toList i=true->o.dst≠some i->AQ (C2 A.js s.t) A.d A.y i=s.t i):=by
 unfold appO at h;split at h
 case h_2=>cases h
 rename_i ty x y d J B;have J:=Acl J;split at h
 case h_2=>cases h
 rename_i j hj;obtain⟨e,hsl,_⟩:=Dq hE.Θ hj;have L:=QI (own_le ht) [x,y];obtain⟨hb,h⟩:=A7 h;simp only[bAE]at hb;obtain⟨⟨⟨⟨h1,h2⟩,h3⟩,h4⟩,h5⟩:=hb;have h3:d<E.h.n:=blE h3;have Y:=LT h4;have hw:=LT h5
 have U:∀O∈jsO ([x,y].map (Lp s)),mvB ops o O=true:=by
  intro O hy;split at h2
  .cases h2
  .rename_i a l e;rw[e]at hy;exact aET.1 h2 O hy
 split at h
 case h_2=>cases h
 rename_i d' ys hys;split at h
 case h_2=>cases h
 rename_i dx xs hxs;obtain⟨hdk,h⟩:=A7 h;cases h;have hA:xs.length+ys.length<=Oy j.bytes:=hA
 have hb:(xs.length+ys.length)*j.bytes<=140737488355328:=by
  rw[Nat.mul_comm];exact(Nat.mul_comm _ _▸(Nat.le_div_iff_mul_le Y).1 hA)
 have h63:xs.length+ys.length<=maxLen:=by
  have:xs.length+ys.length<=(xs.length+ys.length)*j.bytes:=Nat.le_mul_of_pos_right _ Y;simp only[maxLen];omega
 have hx:=Ye ht hxs;have ee:tyV j.ty d'=tyV j.ty dx:=funext λz=>Dt _ _ _ z (MZ hdk)
 have F:=Pc (N:=E.h.n) (x:=x) ht (op:=o.op) (by rw[J];simp[Op.operands,Call.operands]) hys
 rw[ee]at F;have M:=XZ (Al:=AlP E.h ops o) (P:=P) (N:=E.h.n) (σ:=s.den.σ) (t:=t) J B h3 hsl hw hx (by rw[L];exact h1) F h63 hb
 have M:=M.sub (λ_ h=>h) (λ_ _=>Sub.refl _) (M7 rfl rfl (λ_ _ _=>rfl) (λ_ _ _=>rfl))
 dsimp only
 generalize Z:(bif E.h.fz.contains d then Zf (Sl.one (.c (.sl j.ty) (dx+1) (Aci xs ys)))else .one (.c (.sl j.ty) (dx+1) (Aci xs ys)))=z
 have W:∃r,LQ P E.h.n s.den.σ (AlP E.h ops o) o t ((Bj t [x,y]).map λy=>(y,.all)) r/\le1 r (z.v s.r):=by
  cases hf:E.h.fz.contains d with
  |false=>rw[hf]at Z;subst Z;exact⟨_,M,.inl rfl⟩
  |true=>rw[hf]at Z;subst Z;exact⟨_,M.frzR B h3,Ab3 (.one (.c (.sl j.ty) (dx+1) (Aci xs ys))) s.r⟩
 obtain⟨r,hlr,hle⟩:=W;refine⟨_,r,λp hp=>?_,by rw[J];rfl,hlr,?_,λi hn hd=>?_⟩
 .rw[CP L]at hp
  obtain⟨O,hy,rfl⟩:=List.mem_map.1 hp;exact U O hy
 .rw[B]
  show VLe (AJ _ d _) (λi=>(AQ (C2 _ s.t) d _ i).v s.r)
  rw[B3];exact(Acc ht L rfl).upd hle
 .show AQ (C2 _ s.t) d _ i=_
  unfold AQ;rw[BE λe=>hd (by rw[B,e])]
  exact Acd U hn
theorem D4{l:List Oper}(h:∀o∈g,o∈l)(hn:Au l i=true):Au g i=true:=by
 unfold Au at hn⊢
 grind
theorem AbO(h:le1 v v'):AS v=AS v':=by
 rcases h with e|⟨F,B⟩
 .grind
 .rw[B,F];rfl
theorem AbC(h:U5 s x=true):AS (s.den.ev x)=false:=by
 unfold U5 at h;split at h
 .rename_i y e
  rw[Bh e];have B:AS (y.v s.r)=y.own:=Sl.own_v y
  grind
 grind
theorem Ow:∀{ρ:Asm}{c:Nat}{v:Bool},YZ ρ c=some v->∃j,(j,c,v)∈ρ
 |[],_,_,h=>by cases h
 |(i,d,u)::ρ,c,v,h=>by
  unfold YZ at h;cases e:Nat.beq d c with
  |true=>
   simp_all
  |false=>
   rw[e]at h;obtain⟨j,B⟩:=Ow h
   grind
theorem H0:∀{ρ:Asm}{j:Nat}{v:Bool},W9 ρ j=some v->∃d,(j,d,v)∈ρ
 |[],_,_,h=>by cases h
 |(i,d,u)::ρ,j,v,h=>by
  unfold W9 at h;cases e:Nat.beq i j with
  |true=>
   simp_all
  |false=>
   rw[e]at h;obtain⟨B,hd⟩:=H0 h
   grind
def C4(ops:Array Oper)(ρ:Asm)(S:Nat->V):Prop:=∀x∈ρ,(ops[x.1]?).bind (·.dst)=some x.2.1/\S x.2.1=.c (.bool x.2.2)
theorem IF{ops:Array Oper}{ρ:Asm}{v:Bool}(M:VLe t s.den.t)(F:C4 ops ρ s.den.t)(h:Oj ρ s op=some v)(hK:K (.c (.bool v))):NZ P s.den.σ (Ms.ev ⟨t,s.den.σ⟩) op K:=by
 unfold Oj at h;split at h
 case h_2=>cases h
 rename_i c x y;cases B:(U5 s x&&U5 s y)with
 |false=>rw[B]at h;cases h
 |true=>
 rw[B]at h;rw[bAE]at B;simp only[cond_true]at h;split at h
 case h_2=>cases h
 rename_i u Y;obtain⟨j,Z⟩:=Ow Y;obtain⟨_,U⟩:=F _ Z;have L:t c=.c (.bool u):=by
  rcases M c with e|e
  .rw[e];exact U
  .rw[U]at e;cases e.1
 have ev:∀x v,s.den.ev x=.c (.bool v)->Ms.ev ⟨t,s.den.σ⟩ x=.c (.bool v):=λx v J=>by
  rcases M.ev (σ:=s.den.σ) x with e|e
  .rw[e];exact J
  simp_all
 have O:=λx J=>(AbO (M.ev (σ:=s.den.σ) x)).trans (AbC J)
 have W:=valB_v h;show WK (t c) (Ms.ev ⟨t,s.den.σ⟩ x) (Ms.ev ⟨t,s.den.σ⟩ y) K;rw[L];refine⟨O x B.1,O y B.2,λe=>?_,λe=>?_⟩
 .subst e
  rw[ev x v W];exact hK
 grind
theorem Xk(h:AbR (s.t d)=true):s.den.t d=udV:=by
 show(s.t d).v s.r=_;unfold AbR at h;split at h
 .rename_i e;rw[e];rfl
 grind
theorem Abr{d:Option Nat}(F:VLe t s.den.t)(h:De E.h s d=some s'):s'.r=s.r/\(∀e,d=some e->e<E.h.n)/\(∀i,d≠some i->s'.t i=s.t i/\KK t d i=t i)/\VLe (KK t d) s'.den.t/\∀e,d=some e->AS (KK t d e)=false:=by
 unfold De at h;split at h
 .rename_i d
  cases L:Nat.blt d E.h.n with
  |false=>grind
  |true=>
   rw[L]at h;cases h;refine⟨rfl,λe B=>by simp_all,λi J=>⟨?_,if_neg λe=>J (by grind)⟩,?_,λe B=>?_⟩
   .show AQ s.t d _ i=_
    unfold AQ;rw[BE λe=>J (by grind)];rfl
   .show VLe (AJ t d udV) (λi=>(AQ s.t d (.tup []) i).v s.r)
    rw[B3];exact F.upd (.inl rfl)
   .cases B
    show AS (AJ t d udV d)=false;unfold AJ;rw[if_pos rfl];rfl
 .cases h
  exact⟨rfl,(λe B=>by grind),(λ_ _=>⟨rfl,rfl⟩),F,λe B=>by grind⟩
theorem setB_v{d:Option Nat}{v:Bool}{K:(Nat->V)->Prop}(J:VLe t s.den.t)(h:Acs E.h s d v=some s')(M:∀t',s'.r=s.r->(∀i,d≠some i->s'.t i=s.t i/\t' i=t i)->VLe t' s'.den.t->(∀e,d=some e->AS (t' e)=false)->K t'):QK E.h d t K (.c (.bool v)):=by
 unfold Acs at h;split at h
 case h_2=>grind
 rename_i d;cases B:(Nat.blt d E.h.n&& !E.h.fz.contains d)with
 |false=>grind
 |true=>
 rw[B]at h;rw[bAE,Bool.not_eq_true']at B;cases h;refine⟨blE B.1,?_⟩;simp only[B.2,if_false];refine M _ rfl (λi F=>⟨?_,if_neg λe=>F (by grind)⟩) ?_ λe L=>?_
 .show AQ s.t d _ i=_
  unfold AQ;rw[BE λe=>F (by grind)];rfl
 .show VLe (AJ t d _) (λi=>(AQ s.t d (.one (.c .bool 0 v)) i).v s.r)
  rw[B3];exact J.upd (.inl rfl)
 .cases L
  unfold AJ;rw[if_pos rfl];rfl
variable (hE:EOK P E)
include hE
theorem stepq{R:Type}{s:St}{o:Oper}{f:Sl->Option St}{K:St->Option R}{z:R}{t:Nat->V}{Kt:(Nat->V)->Prop}(M:VLe t s.den.t)(h:(AaM E s o.type o.op λy=>match f y with
   |some s'=>K s'
   |none=>none)=some z) (hf:∀y s',f y=some s'->s.putX true E.h o.dst y=some s')
  (hK:∀s' t' y,s'.r=s.r->(∀i,o.dst≠some i->s'.t i=s.t i/\t' i=t i)->VLe t' s'.den.t->f y=some s'->(∀e,o.dst=some e->(y.own&& !fzD E.h o.dst)=false->AS (t' e)=false)->K s'=some z->Kt t'):qop P s.den.σ (Ms.ev ⟨t,s.den.σ⟩) o.op (QK E.h o.dst t Kt):=by
 obtain⟨Y,y,W,L⟩:=Iq hE h;split at L
 case h_2=>grind
 rename_i s' B;have O:=hf y s' B;obtain⟨U,e,he,Z⟩:=putH_r O;refine qop_le M Y (NY W λr0 J=>⟨y.v s.r,J,putH_v O M λt' F h1 h2=>hK s' t' y U (λi hn=>⟨Z i λh=>hn (by grind),h1 i hn⟩) F B h2 L⟩)
theorem pathg{ops:Array Oper}{z:Bool}{Kt:(Nat->V)->Prop}{rest:List Oper}:∀(g:List Oper) (ρ:Asm) (s:St) (t:Nat->V) (K:Asm->St->Option Bool),C4 ops ρ s.den.t->(∀x∈ρ,Au g x.2.1=true)->VLe t s.den.t->CL E true ops g ρ s K=some z->
  (∀ρ' s' t',s'.r=s.r->(∀i,Au g i=true->s'.t i=s.t i/\t' i=t i)->(∀i,Au g i=false->AS (t' i)=false)->VLe t' s'.den.t->C4 ops ρ' s'.den.t->K ρ' s'=some z->vq P E.h ops s.den.σ rest Kt t')->vq P E.h ops s.den.σ (g++rest) Kt t:=by
 intro g
 induction g with
 |nil=>intro ρ s t K O _ ht h hK;exact hK ρ s t rfl (λ_ _=>⟨rfl,rfl⟩) (λi hi=>by cases hi) ht O h
 |cons o g ih=>
  intro ρ s t K O hnd ht h hK
  have hc:∀i,Au (o::g) i=((match o.dst with
   |some e=>!Nat.beq e i
   |none=>true)&&Au g i):=λ_=>rfl
  unfold CL at h;split at h
  case h_1=>cases h
  rename_i j F hgo;split at h
  case h_1=>cases h
  rename_i dj hdj;rw[List.cons_append]
  -- what is behind this operation
  have cont:∀(B:Asm) (s1:St) (t1:Nat->V),C4 ops B s.den.t->(∀x∈B,Au (o::g) x.2.1=true)->s1.r=s.r->(∀i,o.dst≠some i->s1.t i=s.t i/\t1 i=t i)->VLe t1 s1.den.t->(∀e,o.dst=some e->AS (t1 e)=false)->CL E true ops g B s1 K=some z->vq P E.h ops s.den.σ (g++rest) Kt t1:=by
   intro B s1 t1 L M hr hi ht1 ho h1;have hσ:s1.den.σ=s.den.σ:=by show s1.r.map Ac.v=s.r.map Ac.v;rw[hr]
   rw[<-hσ];refine ih B s1 t1 K (λx W=>⟨(L x W).1,?_⟩) (λx W=>(AR (M x W)).2) ht1 h1 λρ2 s2 t2 h2 J h3' h4 h5 h6=>?_
   .show(s1.t x.2.1).v s1.r=_
    rw[(hi _ (AR (M x W)).1).1,hr];exact(L x W).2
   .rw[hσ]
    refine hK ρ2 s2 t2 (h2.trans hr) (λi hn=>?_) (λi hn=>?_) h4 h5 h6
    .obtain⟨n1,n2⟩:=AR hn
     exact⟨(J i n2).1.trans (hi i n1).1,(J i n2).2.trans (hi i n1).2⟩
    .by_cases hg2:Au g i=true
     .rw[(J i hg2).2]
      rw[hc,hg2,Bool.and_true]at hn;split at hn
      .rename_i e he
       have:e=i:=bqE (by simpa using hn)
       subst this;exact ho e he
      .cases hn
     .exact h3' i (by simpa using hg2)
  have pass:∀B:Asm,C4 ops B s.den.t->(∀x∈B,Au (o::g) x.2.1=true)->onS (De E.h s o.dst) (λs'=>CL E true ops g B s' K)=some z->(∀d,o.dst=some d->d<E.h.n)/\vq P E.h ops s.den.σ (g++rest) Kt (KK t o.dst):=by
   intro B h1 h2 J;cases hp:De E.h s o.dst with
   |none=>rw[hp]at J;cases J
   |some s1=>
    rw[hp]at J;obtain⟨q1,q2,q3,q4,q5⟩:=Abr ht hp;exact⟨q2,cont B s1 _ h1 h2 q1 q3 q4 q5 J⟩
  have step:∀B:Asm,C4 ops B s.den.t->(∀x∈B,Au (o::g) x.2.1=true)->Mj E true B s o (λs'=>CL E true ops g B s' K)=some z->qop P s.den.σ (Ms.ev ⟨t,s.den.σ⟩) o.op (QK E.h o.dst t (vq P E.h ops s.den.σ (g++rest) Kt)):=by
   intro B h1 h2 J;unfold Mj at J;split at J
   .rename_i v Z
    split at J
    case h_2=>cases J
    rename_i s1 hs1;exact IF ht h1 Z ⟨_,Sub.refl _,setB_v ht hs1 λt' q1 q2 q3 q4=>cont B s1 t' h1 h2 q1 q2 q3 q4 J⟩
   .refine stepq hE (f:=λy=>bif y.own&& !fzD E.h o.dst then none else s.putX true E.h o.dst y) (K:=λs'=>CL E true ops g B s' K) ht J (λy s' hy=>?_) λs' t' y hr hi ht' hfy ho hy=>?_
    .cases U:y.own&& !fzD E.h o.dst with
     |true=>rw[U]at hy;cases hy
     |false=>rw[U]at hy;exact hy
    have U:(y.own&& !fzD E.h o.dst)=false:=by
     cases U:y.own&& !fzD E.h o.dst with
     |true=>rw[U]at hfy;cases hfy
     |false=>rfl
    exact cont B s' t' h1 h2 hr hi ht' (λe he=>ho e he U) hy
  -- what the guard yields
  have run:∀v:Bool,s.den.t dj=.c (.bool v)->gv t ops j=.c (.bool v):=λv Z=>by
   unfold gv;rw[hdj];rcases ht dj with e|e
   .rw[<-Z];exact e
   .rw[Z]at e;cases e.1
  unfold vq;rw[hgo]
  have Y:∀(B:Asm) (v:Bool),s.den.t dj=.c (.bool v)->C4 ops B s.den.t->(∀x∈B,Au (o::g) x.2.1=true)->(v=F->Mj E true B s o (λs'=>CL E true ops g B s' K)=some z)->(v=(!F)->onS (De E.h s o.dst) (λs'=>CL E true ops g B s' K)=some z)->
    (match gv t ops j with
     |.c (.bool b)=>(b=F->qop P s.den.σ (Ms.ev ⟨t,s.den.σ⟩) o.op (QK E.h o.dst t (vq P E.h ops s.den.σ (g++rest) Kt)))/\(b=(!F)->(∀d,o.dst=some d->d<E.h.n)/\vq P E.h ops s.den.σ (g++rest) Kt (KK t o.dst))
     |v=>v=udV/\(∀d,o.dst=some d->d<E.h.n)/\vq P E.h ops s.den.σ (g++rest) Kt (KK t o.dst)):=by
   intro B v Z h1 h2 J h4;rw[run v Z];exact⟨λe=>step B h1 h2 (J e),λe=>pass B h1 h2 (h4 e)⟩
  cases hu:AbR (s.t dj)with
  |true=>
   rw[hu]at h;have hgv:gv t ops j=udV:=by
    unfold gv;rw[hdj];have Z:=Xk hu;rcases ht dj with e|e
    .rw[<-Z];exact e
    .rw[Z]at e;cases e.1
   obtain⟨p1,p2⟩:=pass ρ O hnd h
   have hm:(match gv t ops j with
     |.c (.bool b)=>(b=F->qop P s.den.σ (Ms.ev ⟨t,s.den.σ⟩) o.op (QK E.h o.dst t (vq P E.h ops s.den.σ (g++rest) Kt)))/\(b=(!F)->(∀d,o.dst=some d->d<E.h.n)/\vq P E.h ops s.den.σ (g++rest) Kt (KK t o.dst))
     |v=>v=udV/\(∀d,o.dst=some d->d<E.h.n)/\vq P E.h ops s.den.σ (g++rest) Kt (KK t o.dst)):=by
    rw[hgv];exact⟨rfl,p1,p2⟩
   exact hm
  |false=>
   rw[hu]at h;simp only[cond_false]at h;split at h
   .rename_i v Z
    obtain⟨d',hm⟩:=H0 Z;obtain⟨e1,e2⟩:=O _ hm;have e1:some dj=some d':=hdj.symm.trans e1;cases e1;refine Y ρ v e2 O hnd (λe=>?_) λe=>?_
    .subst e;simpa using h
    .subst e;cases F<;>exact h
   .split at h
    case h_2=>cases h
    rename_i dd b hb;have hbv:s.den.t dj=.c (.bool b):=by show(s.t dj).v s.r=_;rw[hb];rfl
    obtain⟨hn,h⟩:=A7 h
    have L:C4 ops ((j,dj,b)::ρ) s.den.t:=λx W=>by
     rcases List.mem_cons.1 W with rfl|W
     .exact⟨hdj,hbv⟩
     .exact O x W
    have M:∀x∈(j,dj,b)::ρ,Au (o::g) x.2.1=true:=λx W=>by
     rcases List.mem_cons.1 W with rfl|W
     .exact hn
     .exact hnd x W
    refine Y ((j,dj,b)::ρ) b hbv L M (λe=>?_) λe=>?_
    .subst e;cases b<;>exact h
    .subst e;cases F<;>exact h
theorem Yl{ops:Array Oper}{K:St->Option R}{z:R}{Kt:(Nat->V)->Prop}:∀(l:List Seg) (s:St) (t:Nat->V),(∀o∈l.flatMap Seg.ops,o∈ops.toList)->VLe t s.den.t->
  VF E true ops l s K=some z->(∀s' t',s'.r=s.r->(∀i,Au ops.toList i=true->yB E ops i=false->s'.t i=s.t i)->VLe t' s'.den.t->K s'=some z->Kt t')->vq P E.h ops s.den.σ (l.flatMap Seg.ops) Kt t:=by
 intro l
 induction l with
 |nil=>intro s t _ ht h hK;exact hK s t rfl (λ_ _ _=>rfl) ht h
 |cons sg l ih=>
  intro s t hsub ht h hK;rw[List.flatMap_cons]at hsub;have J:∀o∈sg.ops,o∈ops.toList:=λo ho=>hsub o (List.mem_append_left _ ho)
  have B:∀o∈l.flatMap Seg.ops,o∈ops.toList:=λo ho=>hsub o (List.mem_append_right _ ho)
  cases sg with
  |one o=>
   unfold VF at h;split at h
   case h_2=>cases h
   rename_i hg;rw[List.flatMap_cons];show vq P E.h ops s.den.σ (o::l.flatMap Seg.ops) Kt t;unfold vq;rw[hg];cases hal:alM E.h ops o with
   |true=>
    rw[hal]at h;simp only[Bool.and_self,cond_true]at h;split at h
    case h_2=>cases h
    rename_i d hd;obtain⟨hb,h⟩:=A7 h;refine .inr ⟨rfl,d,hd,blE hb,?_⟩;refine ih ⟨AQ s.t d (.one .dead),s.r⟩ _ B ?_ h λs2 t2 h2 F h3 Z=>hK s2 t2 h2 (λi hn M=>?_) h3 Z
    .show VLe _ (λi=>(AQ s.t d (.one .dead) i).v s.r)
     rw[B3];exact ht.upd (.inl rfl)
    .rw[F i hn M]
     show AQ s.t d (.one .dead) i=s.t i;unfold AQ;rw[BE λe=>(AR (o:=o) (g:=[]) (D4 (g:=[o]) (λo' Y=>J o' Y) hn)).1 (by rw[hd,e])]
     rfl
   |false=>
   rw[hal]at h;simp only[Bool.and_false,cond_false]at h;refine .inl ⟨rfl,?_⟩;have nd:∀i,Au ops.toList i=true->o.dst≠some i:=λi hn=>(AR (o:=o) (g:=[]) (D4 (g:=[o]) (λo' Y=>J o' Y) hn)).1
   split at h
   .rename_i y u d z' hmv
    obtain⟨hdst,hdn,hfz,ys,O,hmq,W,L⟩:=mvF_v ht hmv;refine .inr (.inl ⟨ys,d,z'.v s.r,hdst,hdn,hfz,O,hmq,?_⟩);refine ih ⟨AQ (AQ s.t y u) d z',s.r⟩ _ B W h λs2 t2 h2 F h3 Z=>hK s2 t2 h2 (λi hn M=>?_) h3 Z
    rw[F i hn M];have hid:i≠d:=λe=>nd i hn (by rw[hdst,e])
    have hiy:i≠y:=by
     rintro rfl
     rcases L with⟨e,he,hb,L⟩|⟨hx1,hx2⟩
     rotate_left
     .have:yB E ops i=true:=by
       unfold yB;exact List.any_eq_true.2 ⟨o,J o (List.mem_singleton.2 rfl),by rw[hx1,hx2];rfl⟩
      rw[M]at this;cases this
     unfold AK at L;rw[Option.bind_eq_some_iff]at L;obtain⟨ok,hok,hokd⟩:=L;have hmem:ok∈ops.toList:=by
      rw[<-Array.getElem?_toList]at hok;exact List.mem_of_getElem? hok
     exact(AR (o:=ok) (g:=[]) (D4 (g:=[ok]) (λo' Y=>by rw[List.mem_singleton.1 Y];exact hmem) hn)).1 hokd
    show AQ (AQ s.t y u) d z' i=s.t i;unfold AQ;rw[BE hid];show(bif Nat.beq i y then _ else s.t i)=s.t i;rw[BE hiy];rfl
   split at h
   .rename_i js pu ds hlq
    obtain⟨ys,r,O,hne,hq,W,hnw⟩:=lqF_v hE ht hlq (J o (List.mem_singleton.2 rfl));refine .inr (.inr ⟨ys,r,λp hp=>.inl (O p hp),hne,hq,?_⟩)
    refine ih ⟨ZR ds (ZR pu (C2 js s.t)),s.r⟩ _ B W h λs2 t2 h2 F h3 Z=>hK s2 t2 h2 (λi hn M=>?_) h3 Z
    rw[F i hn M];exact hnw i hn M (nd i hn)
   split at h
   .rename_i A ha
    have h: @ite _ A.p A.dec (VF E true ops l ⟨AQ (C2 A.js s.t) A.d A.y,s.r⟩ K) none=some z:=h;by_cases hA:A.p
    case neg=>rw[if_neg hA]at h;cases h
    rw[if_pos hA]at h;obtain⟨ys,r,O,hne,hq,W,hnw⟩:=appO_v hE ht ha hA;refine .inr (.inr ⟨ys,r,λp hp=>.inl (O p hp),hne,hq,?_⟩)
    refine ih ⟨AQ (C2 A.js s.t) A.d A.y,s.r⟩ _ B W h λs2 t2 h2 F h3 Z=>hK s2 t2 h2 (λi hn M=>?_) h3 Z
    rw[F i hn M];exact hnw i hn (nd i hn)
   split at h
   .rename_i A ha
    cases hu:A.o with
    |none=>rw[hu]at h;cases h
    |some u=>
    rw[hu]at h;simp only[Option.bind_some]at h;obtain⟨ys,r,O,hne,hq,W,hdst,f,xs,e,zk,g1,g2,g3,g4,g5⟩:=Yq hE.U ht ha hu;refine .inr (.inr ⟨ys,r,O,hne,hq,?_⟩);refine ih ⟨AQ (AQ s.t A.y (A.u u)) A.d (A.z u),s.r⟩ _ B W h λs2 t2 h2 F h3 Z=>hK s2 t2 h2 (λi hn M=>?_) h3 Z
    rw[F i hn M];have hid:i≠A.d:=λe=>nd i hn (by rw[hdst,e])
    have hiy:i≠A.y:=by
     rintro rfl
     have key:ucB E ops o A.y=true->False:=λhu=>by
      have:yB E ops A.y=true:=by
       unfold yB;refine List.any_eq_true.2 ⟨o,J o (List.mem_singleton.2 rfl),?_⟩;rw[Bool.or_eq_true];exact .inr hu
      rw[M]at this;cases this
     unfold okU at g5;unfold Wo at g4;unfold ucB at key;rw[g1]at key;simp only[g2,g3]at key;cases hs:alS E.h ops o zk with
     |some y=>
      rw[hs]at g4 key;have g4:y=A.y:=g4;exact key (by rw[g4];exact Nat.beq_refl _)
     |none=>
      rw[hs]at g4 g5 key;have g4:zk=A.y:=g4;have g5:(mvB ops o zk||(dX E zk&&(mvR ops o zk||mvC ops o zk)))=true:=g5;rw[Bool.or_eq_true]at g5;rcases g5 with g5|g5
      .unfold mvB at g5
       rw[bAE]at g5;obtain⟨e1,he1,_,L⟩:=Hx g5.2;unfold AK at L;rw[Option.bind_eq_some_iff]at L;obtain⟨ok,hok,hokd⟩:=L;have hmem:ok∈ops.toList:=by
        rw[<-Array.getElem?_toList]at hok;exact List.mem_of_getElem? hok
       refine(AR (o:=ok) (g:=[]) (D4 (g:=[ok]) (λo' Y=>by rw[List.mem_singleton.1 Y];exact hmem) hn)).1 ?_
       rw[hokd,g4]
      .rw[bAE]at g5
       exact key (by rw[g5.1,g4];exact Nat.beq_refl _)
    show AQ (AQ s.t A.y (A.u u)) A.d (A.z u) i=s.t i;unfold AQ;rw[BE hid];show(bif Nat.beq i A.y then _ else s.t i)=s.t i;rw[BE hiy];rfl
   refine .inl (stepq hE (f:=λy=>s.putX true E.h o.dst y) ht h (λ_ _ h=>h) λs' t' _ hr hi ht' _ _ hy=>?_)
   have hσ:s'.den.σ=s.den.σ:=by show s'.r.map Ac.v=s.r.map Ac.v;rw[hr]
   rw[<-hσ]
   exact ih s' t' B ht' hy λs2 t2 h2 F h3 Z=>hK s2 t2 (h2.trans hr) (λi hn M=>by
    rw[F i hn M,(hi i (nd i hn)).1]) h3 Z
  |grp g pk=>
   unfold VF at h;split at h
   case h_2=>cases h
   rename_i d hpd;have hpd2:pk.dst=some d/\pk.guard=none/\d<E.h.n/\E.h.fz.contains d=false:=by
    unfold YQ at hpd;split at hpd
    case h_2=>cases hpd
    rename_i d' e1 e2;obtain⟨hb,hpd⟩:=A7 hpd;cases hpd;rw[bAE,Bool.not_eq_true']at hb;exact⟨e1,e2,blE hb.1,hb.2⟩
   obtain⟨e1,e2,h3,Z⟩:=hpd2;cases hv:grpB E true ops s g pk with
   |none=>rw[hv]at h;cases h
   |some v=>
    rw[hv]at h;simp only[Option.bind_some]at h;rw[List.flatMap_cons];show vq P E.h ops s.den.σ ((g++[pk])++l.flatMap Seg.ops) Kt t;rw[List.append_assoc];refine pathg hE g [] s t _ (λx M=>by cases M) (λx M=>by cases M) ht hv λρ' s' t' hr hi ho ht' hρ' hs'=>?_
    rw[hr,Nat.beq_refl]at hs';have hs':Oj ρ' s' pk.op=some v:=hs';have hσ:s'.den.σ=s.den.σ:=by show s'.r.map Ac.v=s.r.map Ac.v;rw[hr]
    show vq P E.h ops s.den.σ (pk::l.flatMap Seg.ops) Kt t';unfold vq;rw[e2];refine .inl ⟨?_,.inl ?_⟩
    .cases hal:alM E.h ops pk with
     |false=>rfl
     |true=>
      obtain⟨_,_,_,hop,_⟩:=Nf hal;rw[hop]at hs';cases hs'
    rw[<-hσ];refine IF ht' hρ' hs' ⟨_,Sub.refl _,?_⟩;rw[e1,hσ];refine⟨h3,?_⟩;simp only[Z,Bool.false_eq_true,if_false]
    refine ih ⟨AQ (Df g s.t) d (.one (.c .bool 0 v)),s.r⟩ (AJ t' d (.c (.bool v))) B ?_ h λs2 t2 h2 F h3 Z=>hK s2 t2 h2 (λi hn0 hx0=>by
     have hn:Au ((g++[pk])++l.flatMap Seg.ops) i=true:=D4 hsub hn0;unfold Au at hn;rw[List.all_append,List.all_append,bAE,bAE]at hn;rw[F i hn0 hx0];show AQ (Df g s.t) d (.one (.c .bool 0 v)) i=s.t i;have hid:i≠d:=by
      rintro rfl
      have:=hn.1.2;simp only[List.all_cons,List.all_nil,Bool.and_true,e1,Nat.beq_refl,Bool.not_true]at this;cases this
     unfold AQ;rw[BE hid];show Df g s.t i=s.t i;rw[D9,if_pos (show Au g i=true from hn.1.1)]) h3 Z
    show VLe _ (λi=>(AQ (Df g s.t) d (.one (.c .bool 0 v)) i).v s.r)
    rw[B3];refine VLe.upd ?_ (.inl rfl);intro i;simp only[D9];by_cases hn:Au g i=true
    .rw[if_pos hn,(hi i hn).2];exact ht i
    .rw[if_neg hn];exact .inr ⟨rfl,ho i (by simpa using hn)⟩
end head
end Go.Ve

