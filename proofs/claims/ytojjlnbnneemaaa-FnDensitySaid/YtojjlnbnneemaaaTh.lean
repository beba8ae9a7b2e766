/- The typed machine. -/
import Derived.Test.YtojjlnbnneemaaaTg
import Derived.Test.YtojjlnbnneemaaaTd
open Nat(blt beq beq_refl)
open List(flatMap_cons range mem_singleton any_eq_true mem_of_getElem? mem_map mem_cons)
open Bool(not_eq_true' or_eq_true)
open Array(getElem?_toList)
open Option(bind_eq_some_iff bind_some)
set_option linter.all false
namespace Go.Ve
variable{hh:Cy}{Us:List EnU}{js:List Nat}{g:List Oper}{d i k:Nat}{t t':Nat->V}{op:Op}{o:Oper}{x:Operand}{P:Program}{y:Sl}{s s':St}{ty:Ty}{R:Type}{v v':V}{K:V->Prop}
structure Env where
 Θ:Tab
 Γ:List En
 W:List EnW
 N:List EnN
 h:Cy
 U:List EnU
variable{E:Env}
def It:Op->Option (FuncId×Array Operand)
 |.call c=>match c.callee with
  |.value (.func f)=>some (f,c.args)
  |_=>none
 |_=>none
def Cl.live:Cl->Bool
 |.dead=>false
 |.c (.osl _) _ _=>false
 |.c t _ _=>t.one
 |_=>true
def Abs:Option Sl->Bool
 |some (.one y)=>y.live
 |some _=>true
 |none=>false
theorem live_v(h:Abs (s.ev x)=true):s.den.ev x≠.dead:=by
 unfold Abs at h;split at h
 .rename_i y u
  rw[Bf u];cases y with
  |c t d x=>
   cases t<;>first|(intro B;trivial)|rfl
  |dead=>cases h
  |_=>intro B;trivial
 .rename_i y J u
  rw[Bf u];cases y with
  |one c=>grind
  |_=>intro B;trivial
 grind
def St.liveX(s:St):Operand->Bool
 |.func _=>true
 |x=>Abs (s.ev x)
theorem WX(h:s.liveX x=true):s.den.ev x≠.dead:=by
 cases x with
 |func f=>
  intro e;have e:fnV f=.dead:=e;unfold fnV at e
  grind
 |_=>exact live_v h
def AaF{R:Type}(E:Env)(s:St)(ty:TypeId)(op:Op)(K:Sl->Option R):Option R:=bif op.operands.toList.all s.liveX then(match It op with
 |some (f,xs)=>match Je E.Γ s f (xs.toList.map s.ev)with
  |some a=>IR a.o λz=>K (a.y z)
  |none=>match VT E.N s f (xs.toList.map s.ev)with
   |some a=>IR a.o λz=>Pz z.1 (K (a.y true z.2)) (K (a.y false z.2))
   |none=>none
 |none=>match cloF s op with
  |some (g,ys)=>match Je E.Γ s g (ys.map some)with
   |some a=>IR a.o λz=>K (a.y z)
   |none=>none
  |none=>match cloI E.Θ s op with
  |some (g,ys)=>match Je E.Γ s g (ys.map some)with
   |some a=>IR a.o λz=>K (a.y z)
   |none=>none
  |none=>match tq E.Θ s ty op with
   |some (.ok y)=>K y
   |some (.cnd p dec y)=>oif p dec (K y)
   |none=>none)else none
structure EOK(P:Program)(E:Env):Prop where
 Θ:E.Θ.OK P
 Γ:Hh P E.Γ
 W:∀e∈E.W,e.OK P
 N:∀e∈E.N,e.OK P
 U:∀e∈E.U,e.OK P
theorem H4(hE:EOK P E){ty:TypeId}{K:Sl->Option R}{z:R}(h:AaF E s ty op K=some z):(∀x∈op.operands,s.den.ev x≠.dead)/\∃y,QS P s op y/\K y=some z:=by
 unfold AaF at h;obtain⟨hl,h⟩:=Bc h;refine⟨λx hx=>WX (aET.1 hl x (by simpa using hx)),?_⟩
 split at h
 .rename_i f xs J
  split at h
  case h_2=>
   split at h
   case h_2=>cases h
   rename_i a O;cases B:a.o with
   |none=>rw[B]at h;cases h
   |some u=>
    rw[B]at h;obtain⟨b,u⟩:=u;refine⟨a.y b u,?_,by cases b<;>exact h⟩
    unfold It at J;split at J
    case h_2=>cases J
    rename_i c;obtain⟨callee,args,ats⟩:=c;split at J
    case h_2=>cases J
    rename_i Z U;have U:callee=.value (.func Z):=U;subst U;cases J;exact M9 hE.N O B
  rename_i a O;cases B:a.o with
  |none=>rw[B]at h;cases h
  |some u=>
   rw[B]at h;refine⟨a.y u,?_,h⟩;unfold It at J;split at J
   case h_2=>cases J
   rename_i c;obtain⟨callee,args,ats⟩:=c;split at J
   case h_2=>cases J
   rename_i Z U;have U:callee=.value (.func Z):=U;subst U;cases J;exact OS hE.Γ O B
 .split at h
  .rename_i g ys Y
   split at h
   case h_2=>cases h
   rename_i a O;cases B:a.o with
   |none=>rw[B]at h;cases h
   |some u=>
    rw[B]at h;exact⟨a.y u,U0 hE.Γ Y O B,h⟩
  split at h
  .rename_i g ys Y
   split at h
   case h_2=>cases h
   rename_i a O;cases B:a.o with
   |none=>rw[B]at h;cases h
   |some u=>
    rw[B]at h;exact⟨a.y u,UZ hE.Θ hE.Γ Y O B,h⟩
  split at h
  .rename_i y O
   exact⟨y,PJ hE.Θ O trivial,h⟩
  .rename_i p dec y O
   have h: @ite _ p dec (K y) none=some z:=h;by_cases W:p
   .rw[if_pos W]at h
    exact⟨y,PJ hE.Θ O W,h⟩
   .rw[if_neg W]at h;cases h
  .cases h
def St.putH(h:Cy)(s:St)(d:Option Nat)(y:Sl):Option St:=match d with
 |none=>none
 |some d=>bif blt d h.n then(bif h.fz.contains d then(match y.frz with
   |some u=>some ⟨AK s.t d u,s.r⟩
   |none=>none)else some ⟨AK s.t d y,s.r⟩)else none
def St.putX(hd:Bool)(h:Cy)(s:St)(d:Option Nat)(y:Sl):Option St:=bif hd then s.putH h d y else s.put h d y
inductive Seg where
 |one (o:Oper)
 |grp (g:List Oper) (pk:Oper)
def Seg.ops:Seg->List Oper
 |.one o=>[o]
 |.grp g pk=>g++[pk]
def Q1:List Oper->List Oper×List Oper
 |[]=>([],[])
 |o::l=>bif o.guard.isSome then(o::(Q1 l).1,(Q1 l).2)else([],o::l)
def X1:Nat->List Oper->List Seg
 |0,l=>l.map .one
 |_+1,[]=>[]
 |n+1,o::l=>match o.guard with
  |none=>.one o::X1 n l
  |some _=>match Q1 l with
   |(g,pk::rest)=>.grp (o::g) pk::X1 n rest
   |(_,[])=>(o::l).map .one
def M2:∀l,(Q1 l).1++(Q1 l).2=l
 |[]=>rfl
 |o::l=>by
  unfold Q1;cases u:o.guard.isSome with
  |true=>simp[M2 l]
  |false=>rfl
def L8:∀l:List Oper,(l.map Seg.one).flatMap Seg.ops=l
 |[]=>rfl
 |o::l=>by rw[List.map_cons,flatMap_cons,L8 l];rfl
def Ct:∀(n:Nat) (l:List Oper),(X1 n l).flatMap Seg.ops=l
 |0,l=>L8 l
 |n+1,[]=>rfl
 |n+1,o::l=>by
  unfold X1;split
  .rw[flatMap_cons,Ct n l];rfl
  .split
   .rename_i g pk u B
    rw[flatMap_cons,Ct n u];have:=M2 l;rw[B]at this;rw[<-this];simp[Seg.ops]
   .exact L8 _
def valB(s:St)(x:Operand):Option Bool:=match s.ev x with
 |some (.one (.c .bool _ b))=>some b
 |_=>none
theorem valB_v{b:Bool}(h:valB s x=some b):s.den.ev x=.c (.bool b):=by
 unfold valB at h;split at h
 .rename_i d B u
  cases h;rw[Bf u];rfl
 grind
def C7:List Oper->(Nat->Sl)->Nat->Sl
 |[],t=>t
 |o::l,t=>match o.dst with
  |some d=>C7 l (AK t d (.one .dead))
  |none=>C7 l t
def As(g:List Oper)(d:Nat):Bool:=g.all λo=>match o.dst with
 |some e=>!beq e d
 |none=>true
abbrev Asm:=List (Nat×Nat×Bool)
def WV:Asm->Nat->Option Bool
 |[],_=>none
 |(i,_,v)::ρ,j=>bif beq i j then some v else WV ρ j
def YU:Asm->Nat->Option Bool
 |[],_=>none
 |(_,d,v)::ρ,c=>bif beq d c then some v else YU ρ c
def AbD:Sl->Bool
 |.tup []=>true
 |_=>false
def UB(s:St)(x:Operand):Bool:=match s.ev x with
 |some y=>!y.own
 |none=>false
def NJ(ρ:Asm)(s:St):Op->Option Bool
 |.pick (.tmp c) x y=>bif UB s x&&UB s y then(match YU ρ c with
  |some v=>valB s (bif v then x else y)
  |none=>none)else none
 |_=>none
def Acn(h:Cy)(s:St)(d:Option Nat)(v:Bool):Option St:=match d with
 |some d=>bif blt d h.n&& !h.fz.contains d then some ⟨AK s.t d (.one (.c .bool 0 v)),s.r⟩else none
 |none=>none
def C6(h:Cy)(s:St)(d:Option Nat):Option St:=match d with
 |some d=>bif blt d h.n then some ⟨AK s.t d (.tup []),s.r⟩else none
 |none=>some s
def fzD(h:Cy):Option Nat->Bool
 |some d=>h.fz.contains d
 |none=>false
def LH(E:Env)(hd:Bool)(ρ:Asm)(s:St)(o:Oper)(K:St->Option Bool):Option Bool:=match NJ ρ s o.op with
 |some v=>match Acn E.h s o.dst v with
  |some s'=>K s'
  |none=>none
 |none=>AaF E s o.type o.op λy=>match(bif y.own&& !fzD E.h o.dst then none else s.putX hd E.h o.dst y)with
  |some s'=>K s'
  |none=>none
def onS(o:Option St)(K:St->Option Bool):Option Bool:=match o with
 |some s=>K s
 |none=>none
def CF(E:Env)(hd:Bool)(ops:Array Oper):List Oper->Asm->St->(Asm->St->Option Bool)->Option Bool
 |[],ρ,s,K=>K ρ s
 |o::l,ρ,s,K=>match o.guard with
  |none=>none
  |some (j,want)=>match(ops[j]?).bind (·.dst)with
   |none=>none
   |some u=>bif AbD (s.t u)then onS (C6 E.h s o.dst) (λs'=>CF E hd ops l ρ s' K)else match WV ρ j with
    |some v=>bif v==want then LH E hd ρ s o (λs'=>CF E hd ops l ρ s' K)else onS (C6 E.h s o.dst) (λs'=>CF E hd ops l ρ s' K)
    |none=>match s.t u with
     |.one (.c .bool _ b)=>bif As (o::l) u then
      Pz b (bif want then LH E hd ((j,u,true)::ρ) s o (λs'=>CF E hd ops l ((j,u,true)::ρ) s' K)else onS (C6 E.h s o.dst) (λs'=>CF E hd ops l ((j,u,true)::ρ) s' K))
       (bif want then onS (C6 E.h s o.dst) (λs'=>CF E hd ops l ((j,u,false)::ρ) s' K)else LH E hd ((j,u,false)::ρ) s o (λs'=>CF E hd ops l ((j,u,false)::ρ) s' K))else none
     |_=>none
def grpB(E:Env)(hd:Bool)(ops:Array Oper)(s:St)(g:List Oper)(pk:Oper):Option Bool:=
 CF E hd ops g [] s λρ s'=>bif beq s'.r.length s.r.length then NJ ρ s' pk.op else none
def YK(h:Cy)(pk:Oper):Option Nat:=match pk.dst,pk.guard with
 |some d,none=>bif blt d h.n&& !h.fz.contains d then some d else none
 |_,_=>none
def partS:Bool×List Cl->Option Sl
 |(true,m)=>some (.agg m)
 |(false,y::_)=>some (.one y)
 |(false,[])=>none
def hdS:Sl->Sl
 |.one (.c (.sl _) (_+1) xs)=>.one (.c (.sl .unit) 0 (ZK (HL xs) ()))
 |.one (.c (.osl _) (_+1) x)=>match x with
  |some xs=>.one (.c (.sl .unit) 0 (ZK (HL xs) ()))
  |none=>.one .dead
 |_=>.one .dead
theorem hdS_v(r:List Ae)(y:Sl):hdV (y.v r)=(hdS y).v r:=by
 cases y with
 |one c=>
  cases c with
  |c t d x=>
   cases t with
   |sl t=>
    cases d with
    |zero=>rfl
    |succ d=>
     show V.nd true false 0 x.length (λ_ _=>.dead)=V.nd true false 0 (List.replicate x.length ()).length λi k=>([].getD k .dead)
     simp
   |ptr t=>rfl
   |osl t=>
    cases d with
    |zero=>cases x<;>rfl
    |succ d=>
     cases x with
     |none=>rfl
     |some x=>
      show V.nd true false 0 x.length (λ_ _=>.dead)=V.nd true false 0 (List.replicate x.length ()).length λi k=>([].getD k .dead)
      simp
   |_=>rfl
  |_=>rfl
 |_=>rfl
def dX(E:Env)(y:Nat):Bool:=E.h.fz.contains (y+1000000)
def JB(o:Oper)(y:Nat):Bool:=match o.op with
 |.assign (.tmp z)=>beq z y
 |.move (.tmp z)=>beq z y
 |_=>false
def stB(o:Oper)(y:Nat):Bool:=match o.op with
 |.store _ (.tmp z) _=>beq z y
 |_=>false
def alS(h:Cy)(ops:Array Oper)(o:Oper)(z:Nat):Option Nat:=o.after.toList.findSome? λe=>bif Region.binds .any e then(match ops[e.on]? with
 |some c=>bif alM h ops c then(match c.op,c.dst with
  |.move (.tmp y),some z'=>bif beq z' z then some y else none
  |_,_=>none)else none
 |none=>none)else none
theorem alS_v{h:Cy}{ops:Array Oper}{z y:Nat}(Y:alS h ops o z=some y):AlP h ops o z y:=by
 obtain⟨e,he,u⟩:=List.exists_of_findSome?_eq_some Y;cases O:Region.binds .any e with
 |false=>grind
 |true=>
  rw[O]at u;split at u
  case h_2=>grind
  rename_i c Z;cases B:alM h ops c with
  |false=>grind
  |true=>
   rw[B]at u;split at u
   case h_2=>cases u
   rename_i y' U J hd;cases W:beq U z with
   |false=>grind
   |true=>
    rw[W]at u;cases u;exact⟨e,by grind,O,c,Z,B,J,by simp_all⟩
def VZ(h:Cy)(ops:Array Oper)(o:Oper)(z:Nat):Nat:=match alS h ops o z with
 |some y=>y
 |none=>z
def okU(h:Cy)(u:Nat->Bool)(ops:Array Oper)(o:Oper)(z:Nat):Bool:=match alS h ops o z with
 |some y=>Q2 h ops o (y,.put .dead)
 |none=>mvB ops o z||(u z&&(mvR ops o z||mvC ops o z))
def ucB(E:Env)(ops:Array Oper)(o:Oper)(y:Nat):Bool:=match It o.op with
 |some (f,xs)=>match JD E.U f with
  |some e=>match xs.toList[e.S.k]? with
   |some (.tmp z)=>match alS E.h ops o z with
    |some u=>beq u y
    |none=>dX E z&&beq z y
   |_=>false
  |none=>false
 |none=>false
def yB(E:Env)(ops:Array Oper)(y:Nat):Bool:=ops.toList.any λo=>(dX E y&&(JB o y||stB o y))||ucB E ops o y
def mvF(E:Env)(ops:Array Oper)(s:St)(o:Oper):Option (Nat×Sl×Nat×Sl):=match o.op,o.dst with
 |.assign (.tmp y),some d=>bif(s.t y).own&&blt d E.h.n&& !E.h.fz.contains d&&(mvB ops o y||(dX E y&&mvR ops o y))then some (y,hdS (s.t y),d,s.t y)else none
 |.move (.tmp y),some d=>bif(s.t y).own&&blt d E.h.n&& !E.h.fz.contains d&&(mvB ops o y||(dX E y&&mvR ops o y))then some (y,hdS (s.t y),d,s.t y)else none
 |.extract (.tmp y) c,some d=>match s.t y with
  |.tup l=>match l[c]? with
   |some q=>match partS q with
    |some z=>bif z.own&&blt d E.h.n&& !E.h.fz.contains d&&exB ops o y c then some (y,.tup (l.set c (false,[])),d,z)else none
    |none=>none
   |none=>none
  |_=>none
 |_,_=>none
def notT(p:Nat):Operand->Bool
 |.tmp y=>!beq y p
 |_=>true
def newC:Sl->Option (List Cl)
 |.new lp=>some lp
 |.one (.c (.ptr u) (d+1) z)=>some (AA u d z)
 |_=>none
theorem newC_v{lp:List Cl}(h:newC y=some lp)(r:List Ae):y.v r=Bp true (lp.map Cl.v0):=by
 unfold newC at h;split at h
 .cases h;rfl
 .rename_i u d z
  cases h;show Bp (decide (0<d+1)) (tyV u (d+1-1) z)=_;rw[BM,dT (Nat.succ_pos _)];rfl
 .cases h
def lqF(E:Env)(ops:Array Oper)(s:St)(o:Oper):Option (List Nat×Option (Nat×Sl)×Option (Nat×Sl)):=match o.op,o.dst with
 |.build t ps,some d=>bif C4 ((ps.toList.map (·.2)).map (KW s))&&(match jsO ((ps.toList.map (·.2)).map (KW s))with
   |[]=>false
   |a::l=>(a::l).all (mvB ops o))&&blt d E.h.n then(match E.Θ.look t with
    |some i=>bif i.agg then(match M6 (λk=>i.places[k]?) (H2 i.ty) (ps.toList.map λp=>(p.1,s.ev p.2))with
     |some l=>some (jsO ((ps.toList.map (·.2)).map (KW s)),none,some (d,.agg (bif E.h.fz.contains (2000000+d)then Uz (AA i.ty 0 i.ty.dflt) l else l)))
     |none=>none)else none
    |none=>none)else none
 |.buildSlice t n ps,some d=>bif C4 ((ps.toList.map (·.2)).map (KW s))&&(match jsO ((ps.toList.map (·.2)).map (KW s))with
   |[]=>false
   |a::l=>(a::l).all (mvB ops o))&&blt d E.h.n then(match((E.Θ.look t).bind (·.elem)).bind E.Θ.look with
    |some j=>bif blt 0 j.ty.w&&Nat.ble (n*j.ty.w) 16777216 then(match M6 (λi=>some (i*j.ty.w,j.ty.w)) (Aa9 n (H2 j.ty)) (ps.toList.map λp=>(p.1,s.ev p.2))with
     |some l=>bif l.all Cl.keep then(match NM j.ty j.sd n (l.map (fit j.sd))with
      |some xs=>some (jsO ((ps.toList.map (·.2)).map (KW s)),none,some (d,.one (.c (.sl j.ty) (j.sd+1) xs)))
      |none=>none)else none
     |none=>none)else none
    |none=>none)else none
 |.store t (.tmp p) x,none=>match newC (s.t p),(s.ev x).bind Sl.cellsO,E.Θ.look t with
  |some lp,some l,some i=>bif(mvB ops o p||(dX E p&&mvR ops o p))&&blt p E.h.n&&beq lp.length i.ty.w&&beq l.length i.ty.w&&l.all Cl.keep&&(jsO ([x].map (KW s))).all (mvB ops o)&&notT p x then some (jsO ([x].map (KW s)),some (p,.new (Uz lp l)),none)else none
  |_,_,_=>none
 |_,_=>none
def XI:Op->Option (TypeId×Operand×Operand)
 |.call c=>match c.callee,c.args.toList,c.argTypes.toList with
  |.builtin .append,[x,y],[t,t']=>bif beq t t' then some (t,x,y)else none
  |_,_,_=>none
 |_=>none
theorem list2{α:Type}{xs:Array α}{x y:α}(h:xs.toList=[x,y]):xs= #[x,y]:=by grind
theorem Acf{t:TypeId}{y:Operand}(h:XI op=some (t,x,y)):op=.call ⟨.builtin .append,#[x,y],#[t,t]⟩:=by
 unfold XI at h;split at h
 case h_2=>grind
 rename_i c;obtain⟨callee,args,O⟩:=c;simp at h;split at h
 case h_2=>grind
 rename_i W U t1 t2 J u;cases B:beq t1 t2 with
 |false=>grind
 |true=>
  rw[B]at h;cases h;have:=bqE B;subst this;rw[list2 J,list2 u]
def Vj(t:Ty)(u:Nat):Option Sl->Option (Nat×List t.T)
 |some (.one (.c (.sl t') (d+1) xs))=>if h:t'=t then some (d,h▸xs)else none
 |some (.one .nil)=>some (u,[])
 |_=>none
def Vi(s:St)(t:Ty):Option Sl->Option (Nat×List t.T)
 |some (.one (.c (.sl t') (d+1) ys))=>if h:t'=t then(bif t.noO then some (d,h▸ys)else none)else none
 |y=>match U5 s t s.r.length y with
  |some (d,ys,[])=>some (d,ys)
  |_=>none
structure AO where
 p:Prop
 dec:Decidable p
 js:List Nat
 d:Nat
 y:Sl
def le1(v v':V):Prop:=v=v'\/(v'=.dead/\AN v=false)
def Za(y:Sl):Sl:=match y.frz with
 |some z=>z
 |none=>.one .dead
theorem AbX(y:Sl)(r:List Ae):le1 (Go.Ve.frz (y.v r)) ((Za y).v r):=by
 have B:∀v,AN (Go.Ve.frz v)=false:=by
  intro v
  induction v with
  |many t n f O=>show((range n).any λk=>AN (Go.Ve.frz (f k)))=false;grind
  |nd=>rfl
  |_=>rfl
 unfold Za;cases u:y.frz with
 |none=>exact .inr ⟨rfl,B _⟩
 |some J=>exact .inl (Sl.frz_v u)
def appO(E:Env)(ops:Array Oper)(s:St)(o:Oper):Option AO:=match XI o.op,o.dst with
 |some (t,x,y),some d=>(match((E.Θ.look t).bind (·.elem)).bind E.Θ.look with
  |some i=>bif C4 ([x,y].map (KW s))&&(match jsO ([x,y].map (KW s))with
    |[]=>false
    |a::l=>(a::l).all (mvB ops o))&&blt d E.h.n&&blt 0 i.bytes&&blt 0 i.ty.w then(match Vi s i.ty (s.ev y)with
   |some (d',ys)=>match Vj i.ty d' (s.ev x)with
    |some (dx,xs)=>bif dOK i.ty d' dx then some ⟨HL xs+HL ys<=NV i.bytes,inferInstance,jsO ([x,y].map (KW s)),d,(bif E.h.fz.contains d then Za (.one (.c (.sl i.ty) (dx+1) (Acc xs ys)))else .one (.c (.sl i.ty) (dx+1) (Acc xs ys)))⟩else none
    |none=>none
   |none=>none)else none
  |none=>none)
 |_,_=>none
structure QW where
 α:Type
 o:Option α
 y:Nat
 d:Nat
 u:α->Sl
 z:α->Sl
variable{A:QW}
def Lx(h:Cy)(B:Nat->Bool)(sl:Nat->Nat)(Us:List EnU)(s:St)(o:Oper):Option QW:=match It o.op,o.dst with
 |some (f,xs),some d=>match JD Us f with
  |some e=>match xs.toList[e.S.k]? with
   |some (.tmp z)=>match s.t (sl z)with
    |.one (.c t dd x)=>if ht:t=e.S.t then
      bif beq dd e.S.d&&blt d h.n&&blt (sl z) h.n&& !beq (sl z) d&&B z&&IP e.S.rs&&((CO e.S.k xs.toList).map s.ev).all uok&&(CO e.S.k xs.toList).all s.liveX then
       (match Jf s e.S.ps ((CO e.S.k xs.toList).map s.ev)with
       |some J=>some ⟨(RT e.S.rs).T×e.S.t.T,Pz (bif e.S.eat then true else AbR e.S.t (ht▸x)) (e.g J (ht▸x)) none,sl z,d,λu=>bif e.S.eat then .one .dead else .one (.c e.S.t e.S.d u.2),λu=>bif h.fz.contains d then Za (OY true e.S.rs u.1)else OY true e.S.rs u.1⟩
       |none=>none)else none
     else none
    |_=>none
   |_=>none
  |none=>none
 |_,_=>none
def ZB(h:Cy)(u:Nat->Bool)(Us:List EnU)(ops:Array Oper)(s:St)(o:Oper):Option QW:=Lx h (okU h u ops o) (VZ h ops o) Us s o
def ZF:Option (Nat×Sl)->(Nat->Sl)->Nat->Sl
 |some (d,y),t=>AK t d y
 |none,t=>t
def Va{R:Type}(E:Env)(hd:Bool)(ops:Array Oper):List Seg->St->(St->Option R)->Option R
 |[],s,K=>K s
 |.one o::l,s,K=>match o.guard with
  |none=>bif hd&&alM E.h ops o then(match o.dst with
   |some d=>bif blt d E.h.n then Va E hd ops l ⟨AK s.t d (.one .dead),s.r⟩ K else none
   |none=>none)else match mvF E ops s o with
   |some (y,u,d,z)=>Va E hd ops l ⟨AK (AK s.t y u) d z,s.r⟩ K
   |none=>match(bif hd then lqF E ops s o else none)with
    |some (js,pu,ds)=>Va E hd ops l ⟨ZF ds (ZF pu (CS js s.t)),s.r⟩ K
    |none=>match(bif hd then appO E ops s o else none)with
     |some A=>oif A.p A.dec (Va E hd ops l ⟨AK (CS A.js s.t) A.d A.y,s.r⟩ K)
     |none=>match(bif hd then ZB E.h (dX E) E.U ops s o else none)with
      |some A=>IR A.o λu=>Va E hd ops l ⟨AK (AK s.t A.y (A.u u)) A.d (A.z u),s.r⟩ K
      |none=>AaF E s o.type o.op λy=>match s.putX hd E.h o.dst y with
       |some s'=>Va E hd ops l s' K
       |none=>none
  |some _=>none
 |.grp g pk::l,s,K=>match YK E.h pk with
  |some d=>IR (grpB E hd ops s g pk) λv=>Va E hd ops l ⟨AK (C7 g s.t) d (.one (.c .bool 0 v)),s.r⟩ K
  |none=>none
theorem BK{a b:Nat}(h:a≠b):beq a b=false:=by
 cases u:beq a b with
 |false=>rfl
 |true=>simp_all
theorem DN:∀(g:List Oper) (t:Nat->Sl) (i:Nat),C7 g t i=if As g i then t i else .one .dead
 |[],t,i=>rfl
 |o::g,t,i=>by
  have B:As (o::g) i=((match o.dst with
   |some e=>!beq e i
   |none=>true)&&As g i):=rfl
  rw[B];unfold C7;cases hd:o.dst with
  |none=>
   exact DN g t i
  |some d=>
   simp;rw[DN g];by_cases u:d=i
   .subst u
    simp[AK]
   .have O:=BK u
    have J:=BK (Ne.symm u);simp[AK,O,J]
def VLe(t t':Nat->V):Prop:=∀i,le1 (t i) (t' i)
def VLe.refl(t:Nat->V):VLe t t:=λ_=>.inl rfl
theorem VLe.upd(h:VLe t t')(u:le1 v v'):VLe (AI t d v) (AI t' d v'):=by
 intro i;unfold AI;split
 .grind
 .exact h i
theorem VLe.ev{t t':Nat->V}{σ:List V}(h:VLe t t')(x:Operand):le1 (Ms.ev ⟨t,σ⟩ x) (Ms.ev ⟨t',σ⟩ x):=by
 cases x with
 |tmp i=>exact h i
 |_=>exact .inl rfl
def qop_le{σ:List V}(h:VLe t t')(J:∀x∈op.operands,Ms.ev ⟨t',σ⟩ x≠.dead)(B:Nu P σ (Ms.ev ⟨t',σ⟩) op K):Nu P σ (Ms.ev ⟨t,σ⟩) op K:=
 KK (λx u=>((h.ev x).resolve_right λe=>J x u e.1).symm) B
section head
variable {P:Program}{E:Env}
theorem putH_v{d:Option Nat}{K:(Nat->V)->Prop}(u:s.putH E.h d y=some s')(U:VLe t s.den.t)(hK:∀t',VLe t' s'.den.t->(∀i,d≠some i->t' i=t i)->(∀e,d=some e->(y.own&& !fzD E.h d)=false->AN (t' e)=false)->K t'):QK E.h d t K (y.v s.r):=by
 unfold St.putH at u;split at u
 .cases u
 .rename_i d
  obtain⟨hb,u⟩:=Bc u
  have O:∀v:V,AN (frz v)=false:=by
   intro v
   induction v with
   |many t n f Z=>show((range n).any λk=>AN (frz (f k)))=false;rw[List.any_eq_false];intro k _;rw[Z k];simp
   |nd=>rfl
   |_=>rfl
  refine⟨blE hb,hK _ ?_ (λi hi=>if_neg λe=>hi (by rw[e])) λe he J=>?_⟩
  rotate_left
  .cases he
   unfold AI;rw[if_pos rfl];split
   .exact O _
   .rename_i B
    rw[Sl.own_v];have B:E.h.fz.contains d=false:=by simpa using B
    have J:(y.own&& !E.h.fz.contains d)=false:=J;rw[B]at J;simpa using J
  cases W:E.h.fz.contains d with
  |true=>
   rw[W]at u;simp only[cond_true]at u;split at u
   .rename_i Y hy
    cases u;simp only[if_true];rw[Sl.frz_v hy];show VLe _ (λi=>(AK s.t d Y i).v s.r)
    rw[B4];exact U.upd (.inl rfl)
   .cases u
  |false=>
   rw[W]at u;simp only[cond_false,Option.some.injEq]at u;subst u;show VLe _ (λi=>(AK s.t d y i).v s.r)
   rw[B4];exact U.upd (.inl rfl)
theorem putH_r{d:Option Nat}(u:s.putH E.h d y=some s'):s'.r=s.r/\∃e,d=some e/\∀i,i≠e->s'.t i=s.t i:=by
 unfold St.putH at u;split at u
 .cases u
 .rename_i d
  have key:∀B,∀i,i≠d->AK s.t d B i=s.t i:=λB i W=>by
   unfold AK;cases U:beq i d with
   |false=>rfl
   |true=>simp_all
  cases O:blt d E.h.n with
  |false=>grind
  |true=>
   rw[O]at u;simp only[cond_true]at u;cases J:E.h.fz.contains d with
   |true=>
    rw[J]at u;split at u
    .cases u;grind
    grind
   |false=>
    rw[J]at u;simp[cond_false,Option.some.injEq]at u;subst u
    grind
theorem AL(h:As (o::g) d=true):o.dst≠some d/\As g d=true:=by
 have u:As (o::g) d=((match o.dst with
  |some e=>!beq e d
  |none=>true)&&As g d):=rfl
 rw[u,bAE]at h;refine⟨λhd=>?_,h.2⟩
 simp_all
theorem Xm{l:List V}{c:Nat}:(l.set c .dead).getD k .dead=if k=c then .dead else l.getD k .dead:=by grind
theorem mvF_v{ops:Array Oper}{y:Nat}{u z:Sl}(ht:VLe t s.den.t)(h:mvF E ops s o=some (y,u,d,z)):
  o.dst=some d/\d<E.h.n/\E.h.fz.contains d=false/\∃ys,(∀p∈ys,Jc ops o p=true)/\mq t o ys (z.v s.r)/\VLe (AI (AP ys t) d (z.v s.r)) (St.den ⟨AK (AK s.t y u) d z,s.r⟩).t/\
   ((∃e∈o.after,Region.binds .any e=true/\AH ops e.on=some y)\/(dX E y=true/\JB o y=true)):=by
 have own:∀y,(s.t y).own=true->t y=s.den.t y:=by
  intro y hy;rcases ht y with e|e
  .exact e
  .have h5:AN (s.den.t y)=(s.t y).own:=Sl.own_v (s.t y)
   rw[e.1,hy]at h5;cases h5
 have Z:∀ys (V0:V),(∀x,AP ys t x=if x=y then V0 else t x)->le1 V0 (u.v s.r)->VLe (AI (AP ys t) d (z.v s.r)) (St.den ⟨AK (AK s.t y u) d z,s.r⟩).t:=by
  intro ys V0 hk hu;show VLe _ (λi=>(AK (AK s.t y u) d z i).v s.r)
  rw[B4];refine VLe.upd ?_ (.inl rfl);rw[B4];intro i;rw[hk];unfold AI;split
  .exact hu
  .exact ht i
 have kM:∀(y:Nat) (tk:Tk) x,AP [(y,tk)] t x=if x=y then kapp tk (t y)else t x:=by
  intro y tk x;unfold AP;by_cases hx:x=y
  .subst hx
   rw[if_pos rfl];show H1 (if x=x then some tk else none) _=_
   rw[if_pos rfl];rfl
  .rw[if_neg hx]
   show H1 (if y=x then some tk else none) _=_
   rw[if_neg (Ne.symm hx)];rfl
 have edge:∀y,mvB ops o y=true->∃e∈o.after,Region.binds .any e=true/\AH ops e.on=some y:=by
  intro y hy;unfold mvB at hy;rw[bAE]at hy;exact Hf hy.2
 have U:∀(B Y:Nat),(o.op=.assign (.tmp B)\/o.op=.move (.tmp B))->o.dst=some Y->(bif(s.t B).own&&blt Y E.h.n&& !E.h.fz.contains Y&&(mvB ops o B||(dX E B&&mvR ops o B))then some (B,hdS (s.t B),Y,s.t B)else none)=some (y,u,d,z)->
   o.dst=some d/\d<E.h.n/\E.h.fz.contains d=false/\∃ys,(∀p∈ys,Jc ops o p=true)/\mq t o ys (z.v s.r)/\VLe (AI (AP ys t) d (z.v s.r)) (St.den ⟨AK (AK s.t y u) d z,s.r⟩).t/\
   ((∃e∈o.after,Region.binds .any e=true/\AH ops e.on=some y)\/(dX E y=true/\JB o y=true)):=by
  intro B Y J O h;obtain⟨hb,h⟩:=Bc h;simp only[cond_true,Option.some.injEq,Prod.mk.injEq]at h;obtain⟨rfl,rfl,rfl,rfl⟩:=h;simp only[bAE,not_eq_true']at hb;obtain⟨⟨⟨h1,h2⟩,h3⟩,h4⟩:=hb
  exact⟨O,blE h2,h3,[(B,.put (hdV ((s.t B).v s.r)))],λp hp=>by
   rw[mem_singleton.1 hp];show(mvB ops o B||mvR ops o B||mvC ops o B)=true;refine or_eq_true _ _▸ .inl (show(mvB ops o B||mvR ops o B)=true from ?_)
   rw[or_eq_true]at h4⊢;exact h4.imp id λh=>by rw[bAE]at h;exact h.2,.inl ⟨B,J,rfl,(own B h1).symm⟩,Z _ (hdV ((s.t B).v s.r)) (λx=>kM B (.put (hdV ((s.t B).v s.r))) x) (.inl (hdS_v s.r (s.t B))),(by
   rw[or_eq_true]at h4;rcases h4 with h4|h4
   .exact .inl (edge B h4)
   .rw[bAE]at h4
    refine .inr ⟨h4.1,?_⟩;unfold JB;rcases J with J|J<;>(rw[J];exact beq_refl _))⟩
 unfold mvF at h;split at h
 .rename_i B Y J O
  exact U B Y (.inl J) O h
 .rename_i B Y J O
  exact U B Y (.inr J) O h
 .rename_i B c Y J O
  split at h
  case h_2=>cases h
  rename_i l hl;split at h
  case h_2=>cases h
  rename_i q hq;split at h
  case h_2=>cases h
  rename_i z' hz;obtain⟨hb,h⟩:=Bc h;simp only[cond_true,Option.some.injEq,Prod.mk.injEq]at h;obtain⟨rfl,rfl,rfl,rfl⟩:=h;simp only[bAE,not_eq_true']at hb;obtain⟨⟨⟨h1,h2⟩,h3⟩,h4⟩:=hb;obtain⟨hc,hq'⟩:=List.getElem?_eq_some_iff.1 hq
  -- the part's value
  have hzv:z'.v s.r=(if q.1 then Am (q.2.map (Cl.v s.r))else(q.2.map (Cl.v s.r)).getD 0 .dead):=by
   obtain⟨b,m⟩:=q;cases b with
   |true=>cases hz;rfl
   |false=>cases m with
    |nil=>cases hz
    |cons a m=>cases hz;rfl
  obtain⟨L,hL⟩:∃L:List V,L=l.map λp=>if p.1 then Am (p.2.map (Cl.v s.r))else(p.2.map (Cl.v s.r)).getD 0 .dead:=⟨_,rfl⟩
  have hLc:L.getD c .dead=z'.v s.r:=by
   rw[hL,hzv];simp[List.getElem?_map,hq]
  have hcL:c<L.length:=by rw[hL];simpa using hc
  have W:s.den.t B=DC L:=by
   show(s.t B).v s.r=_;rw[hl,hL];rfl
  have hown:(s.t B).own=true:=by
   have h5:AN (s.den.t B)=(s.t B).own:=Sl.own_v (s.t B);rw[<-h5,W];have h6:AN (z'.v s.r)=true:=by rw[Sl.own_v];exact h1
   show AN (V.many .tu L.length λk=>L.getD k .dead)=true
   simp only[AN];rw[any_eq_true];exact⟨c,List.mem_range.2 hcL,by rw[hLc];exact h6⟩
  have hty:=own B hown;refine⟨O,blE h2,h3,[(B,.part c)],λp hp=>by rw[mem_singleton.1 hp];exact h4,.inr ⟨B,c,L.length,λk=>L.getD k .dead,J,rfl,hty.trans W,hcL,hLc.symm⟩,Z _ _ (λx=>kM B (.part c) x) (.inl ?_),?_⟩
  .rw[hty,W]
   show NZ c (V.many .tu L.length λk=>L.getD k .dead)=DC ((l.set c (false,[])).map λp=>if p.1 then Am (p.2.map (Cl.v s.r))else(p.2.map (Cl.v s.r)).getD 0 .dead)
   rw[List.map_set,<-hL];show V.many _ _ _=V.many _ (L.set c V.dead).length _;rw[List.length_set]
   congr 1
   funext k
   exact Xm.symm
  .unfold exB at h4
   rw[bAE]at h4;exact .inl (Hf h4.2)
 .cases h
theorem QQ{f:FuncId}{xs:Array Operand}(h:It op=some (f,xs)):∃u,op=.call ⟨.value (.func f),xs,u⟩:=by
 unfold It at h;split at h
 case h_2=>grind
 rename_i c;obtain⟨callee,args,u⟩:=c;split at h
 case h_2=>grind
 simp_all
theorem UW{l:List Operand}(u:k<l.length)(B:i≠k)(h:l[i]? =some x):x∈CO k l:=by
 rcases Nat.lt_or_ge i k with hlt|hge
 .exact mem_of_getElem? (by rw[N9 hlt u];omega)
 .obtain⟨j,rfl⟩:∃j,i=j+1:=⟨i-1,by omega⟩
  exact mem_of_getElem? (i:=j) (by rw[Oa (by omega) u];grind)
theorem M3(hU:∀e∈Us,e.OK P){okf:Nat->Bool}{sl:Nat->Nat}{Al:Nat->Nat->Prop}(hal:∀z,sl z=z\/Al z (sl z))(ht:VLe t s.den.t)(h:Lx hh okf sl Us s o=some A){u:A.α}(hu:A.o=some u):
  ∃v r,UA o.op=true/\LQ P hh.n s.den.σ Al o t [(A.y,.put v)] r/\VLe (Iy o.dst r (AP [(A.y,.put v)] t)) (St.den ⟨AK (AK s.t A.y (A.u u)) A.d (A.z u),s.r⟩).t/\o.dst=some A.d/\A.y≠A.d/\A.y<hh.n/\∃f xs e z,It o.op=some (f,xs)/\JD Us f=some e/\xs.toList[e.S.k]? =some (.tmp z)/\sl z=A.y/\okf z=true:=by
 unfold Lx at h;split at h
 case h_2=>cases h
 rename_i f xs d O hd;split at h
 case h_2=>cases h
 rename_i e he;split at h
 case h_2=>cases h
 rename_i zk hk;split at h
 case h_2=>cases h
 rename_i t0 dd x hy;obtain⟨y,U⟩:∃y,sl zk=y:=⟨_,rfl⟩;simp only[U]at h hy;split at h
 case isFalse=>cases h
 rename_i hte;subst hte;generalize hB:(beq dd e.S.d&&blt d hh.n&&blt y hh.n&& !beq y d&&okf zk&&IP e.S.rs&&((CO e.S.k xs.toList).map s.ev).all uok&&(CO e.S.k xs.toList).all s.liveX)=B at h;cases B with
 |false=>cases h
 |true=>
 simp only[bAE,not_eq_true']at hB;obtain⟨⟨⟨⟨⟨⟨⟨h1,h2⟩,h3⟩,h4⟩,h6⟩,h7⟩,h8⟩,h9⟩:=hB;simp only[cond_true]at h;split at h
 case h_2=>cases h
 rename_i z hz;cases h;obtain⟨⟨W,J,hft⟩,hfe⟩:=Qt hU he;have hop0:=O;obtain⟨ats,O⟩:=QQ O;have hdd:=bqE h1;have hyd:y≠d:=λe=>by rw[e,beq_refl]at h4;cases h4
 have hks:e.S.k<xs.toList.length:=(List.getElem?_eq_some_iff.1 hk).1;have hu:Pz (bif e.S.eat then true else AbR e.S.t x) (e.g z x) none=some u:=hu;obtain⟨hho,hu⟩:=Bc hu;have hu:e.g z x=some u:=hu;have Y:0<e.S.d:=by
  unfold Ow.ok at J;simp only[bAE]at J;exact blE J.1.1
 have hnd:∃s sz n f,cV e.S.t e.S.d x=.nd s true sz n f:=by
  unfold Ow.ok at J;simp only[bAE]at J;exact treeND Y J.2
 have hhold:K2 (cV e.S.t e.S.d x)\/(bif e.S.eat then V.dead else cV e.S.t e.S.d u.2)=.dead:=by
  cases he:e.S.eat with
  |true=>exact .inr rfl
  |false=>
   rw[he]at hho;exact .inl (AbQ Y hho)
 have hty:t y=cV e.S.t e.S.d x:=by
  have e1:s.den.t y=cV e.S.t e.S.d x:=by
   show(s.t y).v s.r=_;rw[hy,hdd];rfl
  rcases ht y with e2|⟨e2,_⟩
  .rw[e2,e1]
  .obtain⟨_,_,_,_,e3⟩:=hnd
   rw[e1,e3]at e2;cases e2
 obtain⟨k1,k2⟩:=AaD hks hz h8;have hc:=hft z x u hu;rw[hfe]at W hc;have hzy:zk=y\/Al zk y:=by
  rcases hal zk with h|h
  .exact .inl (h.symm.trans U)
  .rw[U]at h;exact .inr h
 have hlq:=Zp (Al:=Al) (P:=P) (N:=hh.n) (σ:=s.den.σ) (t:=t) O hd (blE h2) (blE h3) hyd W (by rw[<-getElem?_toList];exact hk) hzy (Sub.of_eq hty) hnd hhold (by simpa using k1) (λi x' hik hx=>by
  have hx:xs.toList[i]? =some x':=by rw[getElem?_toList];exact hx
  have hl:=aET.1 h9 x' (UW hks hik hx);have hev:Ms.ev ⟨t,s.den.σ⟩ x'=s.den.ev x':=(ht.ev (σ:=s.den.σ) x').resolve_right λe=>WX hl e.1
  rw[hev];exact k2 i x' hik hx) hc
 have e2:AP [(y,.put (bif e.S.eat then .dead else cV e.S.t e.S.d u.2))] t=AI t y (bif e.S.eat then .dead else cV e.S.t e.S.d u.2):=by
  funext i
  unfold AP AI;by_cases hi:i=y
  .subst hi
   rw[if_pos rfl];show H1 (if i=i then some (.put _)else none) _=_
   rw[if_pos rfl];rfl
  .rw[if_neg hi]
   show H1 (if y=i then some (.put _)else none) _=_
   rw[if_neg (Ne.symm hi)];rfl
 have e3:∀Z:Sl,(St.den ⟨AK (AK s.t y (bif e.S.eat then Sl.one .dead else .one (.c e.S.t e.S.d u.2))) d Z,s.r⟩).t=AI (AI s.den.t y (bif e.S.eat then .dead else cV e.S.t e.S.d u.2)) d (Z.v s.r):=by
  intro Z;show(λi=>(AK (AK s.t y _) d _ i).v s.r)=_
  rw[B4]
  congr 1
  show(λi=>(AK s.t y _ i).v s.r)=_
  rw[B4]
  congr 1
  cases e.S.eat<;>rfl
 have e4:(OY true e.S.rs u.1).v s.r=Wd e.S.rs u.1:=by rw[ZI _ _ _ h7,Jq]
 have hfz:∀v:V,AN (Go.Ve.frz v)=false:=by
  intro v
  induction v with
  |many t n f ih=>show((range n).any λk=>AN (Go.Ve.frz (f k)))=false;rw[List.any_eq_false];intro k _;rw[ih k];simp
  |nd=>rfl
  |_=>rfl
 cases hf:hh.fz.contains d with
 |false=>
  refine⟨_,_,by rw[O];rfl,hlq,?_,hd,hyd,blE h3,f,xs,e,zk,hop0,he,hk,U,h6⟩
  show VLe _ (St.den ⟨AK (AK s.t y (bif e.S.eat then Sl.one .dead else .one (.c e.S.t e.S.d u.2))) d (bif false then Za (OY true e.S.rs u.1)else OY true e.S.rs u.1),s.r⟩).t;rw[e3,hd,e2];show VLe (AI _ d _) (AI _ d ((OY true e.S.rs u.1).v s.r));rw[e4];exact VLe.upd (ht.upd (.inl rfl)) (.inl rfl)
 |true=>
  refine⟨_,_,by rw[O];rfl,hlq.frzR hd (blE h2),?_,hd,hyd,blE h3,f,xs,e,zk,hop0,he,hk,U,h6⟩
  show VLe _ (St.den ⟨AK (AK s.t y (bif e.S.eat then Sl.one .dead else .one (.c e.S.t e.S.d u.2))) d (bif true then Za (OY true e.S.rs u.1)else OY true e.S.rs u.1),s.r⟩).t;rw[e3,hd,e2];show VLe (AI _ d _) (AI _ d ((Za (OY true e.S.rs u.1)).v s.r));refine VLe.upd (ht.upd (.inl rfl)) ?_;unfold Za;cases hz2:(OY true e.S.rs u.1).frz with
  |none=>exact .inr ⟨rfl,hfz _⟩
  |some z2=>
   left;show _=z2.v s.r;rw[<-e4];exact Sl.frz_v hz2
theorem Ym(hU:∀e∈Us,e.OK P){ops:Array Oper}(Y:VLe t s.den.t){U:Nat->Bool}(h:ZB hh U Us ops s o=some A){u:A.α}(W:A.o=some u):
  ∃ys r,(∀p∈ys,Jc ops o p=true\/Q2 hh ops o p=true)/\UA o.op=true/\LQ P hh.n s.den.σ (AlP hh ops o) o t ys r/\VLe (Iy o.dst r (AP ys t)) (St.den ⟨AK (AK s.t A.y (A.u u)) A.d (A.z u),s.r⟩).t/\o.dst=some A.d/\∃f xs e z,It o.op=some (f,xs)/\JD Us f=some e/\xs.toList[e.S.k]? =some (.tmp z)/\VZ hh ops o z=A.y/\okU hh U ops o z=true:=by
 obtain⟨v,r,h1,h2,h3,h4,_,_,f,xs,e,z,g1,g2,g3,B,J⟩:=M3 hU (λz=>by
  unfold VZ;cases O:alS hh ops o z with
  |none=>exact .inl rfl
  |some y=>exact .inr (alS_v O)) Y h W
 refine⟨_,r,λp Z=>?_,h1,h2,h3,h4,f,xs,e,z,g1,g2,g3,B,J⟩
 rw[mem_singleton.1 Z];unfold okU at J;unfold VZ at B;cases O:alS hh ops o z with
 |none=>
  rw[O]at B J;have B:z=A.y:=B;left;show(mvB ops o A.y||mvR ops o A.y||mvC ops o A.y)=true
  grind
 |some y=>
  rw[O]at B J;have B:y=A.y:=B;rw[B]at J;exact .inr J
theorem lqF_v(hE:EOK P E){ops:Array Oper}{pu ds:Option (Nat×Sl)}(ht:VLe t s.den.t)(h:lqF E ops s o=some (js,pu,ds))(hmo:o∈ops.toList):
  ∃ys r,(∀p∈ys,Jc ops o p=true)/\UA o.op=true/\LQ P E.h.n s.den.σ (AlP E.h ops o) o t ys r/\VLe (Iy o.dst r (AP ys t)) (St.den ⟨ZF ds (ZF pu (CS js s.t)),s.r⟩).t/\
   (∀i,As ops.toList i=true->yB E ops i=false->o.dst≠some i->ZF ds (ZF pu (CS js s.t)) i=s.t i):=by
 have own:∀y,AN (t y)=(s.t y).own:=by
  intro y;have h5:AN (s.den.t y)=(s.t y).own:=Sl.own_v (s.t y);rcases ht y with e|⟨e1,e2⟩
  .rw[e];exact h5
  .rw[e1]at h5;rw[e2,<-h5];rfl
 have hev:∀x,s.den.ev x≠.dead->Ms.ev ⟨t,s.den.σ⟩ x=s.den.ev x:=λx hx=>((ht.ev (σ:=s.den.σ) x).resolve_right λe=>hx e.1)
 have edge:∀y,mvB ops o y=true->∃e∈o.after,Region.binds .any e=true/\AH ops e.on=some y:=by
  intro y J;unfold mvB at J;rw[bAE]at J;exact Hf J.2
 have notW:∀y i,As ops.toList i=true->mvB ops o y=true->i≠y:=by
  rintro y i hn J rfl
  obtain⟨e,_,_,hed⟩:=edge i J;unfold AH at hed;rw[bind_eq_some_iff]at hed;obtain⟨ok,hok,hokd⟩:=hed;have hmem:ok∈ops.toList:=by
   rw[<-getElem?_toList]at hok;exact mem_of_getElem? hok
  have:As [ok] i=true:=by
   unfold As at hn⊢;rw[aET]at hn⊢;exact λo ho=>hn o (by rw[mem_singleton.1 ho];exact hmem)
  exact(AL this).1 hokd
 have deadN:∀(js:List Nat) i,(∀y∈js,mvB ops o y=true)->As ops.toList i=true->CS js s.t i=s.t i:=by
  intro js i hj hn;unfold CS;have:js.contains i=false:=by
   cases hc:js.contains i with
   |false=>rfl
   |true=>exact absurd rfl (notW i i hn (hj i (by simpa using hc)))
  rw[this];rfl
 have kill:∀(js:List Nat) (xs:List Operand),xs.map (Ik t)=xs.map (KW s)->js=jsO (xs.map (KW s))->VLe (AP ((Bd t xs).map λy=>(y,.all)) t) (λi=>(CS js s.t i).v s.r):=by
  intro js xs hx hj i;rw[Dh,CH hx,<-hj];show le1 _ ((bif js.contains i then Sl.one Cl.dead else s.t i).v s.r);by_cases Z:i∈js
  .have:js.contains i=true:=by simpa using Z
   rw[if_pos Z,this];exact .inl rfl
  .have:js.contains i=false:=by simpa using Z
   rw[if_neg Z,this];exact ht i
 unfold lqF at h;split at h
 case h_4=>cases h
 .-- a struct
  rename_i ty ps d U B;obtain⟨xs,O⟩:∃xs,xs=ps.toList.map (·.2):=⟨_,rfl⟩
  rw[<-O]at h;have u:=Qk own xs;obtain⟨hb,h⟩:=Bc h;simp only[bAE]at hb;obtain⟨⟨h1,h2⟩,h3⟩:=hb;have h3:d<E.h.n:=blE h3
  have Y:∀y∈jsO (xs.map (KW s)),mvB ops o y=true:=by
   intro y J;split at h2
   .cases h2
   .rename_i a l e;rw[e]at J;exact aET.1 h2 y J
  split at h
  case h_2=>cases h
  rename_i i Z;obtain⟨hag,h⟩:=Bc h;split at h
  case h_2=>cases h
  rename_i l hl;cases h;obtain⟨k1,k2⟩:=LE (ev:=Ms.ev ⟨t,s.den.σ⟩) _ _ _ (λp _=>hev p.2) hl
  rw[I7]at k2;have hbi:=hE.Θ.bd Z;rw[hag]at hbi;obtain⟨l',hl'⟩:∃l',l'=(bif E.h.fz.contains (2000000+d)then Uz (AA i.ty 0 i.ty.dflt) l else l):=⟨_,rfl⟩
  have W:Sub (Am (l.map (Cl.v s.r))) (Am (l'.map (Cl.v s.r))):=by
   rw[hl'];cases E.h.fz.contains (2000000+d)with
   |false=>exact Sub.refl _
   |true=>
    show Sub (V.many _ _ _) (V.many _ _ _);refine⟨λk=>((Uz (AA i.ty 0 i.ty.dflt) l).map (Cl.v s.r)).getD k .dead,by simp[L9],λk _=>WJ s.r _ _ k⟩
  rw[<-hl'];refine⟨_,_,λp hp=>?_,by rw[U];rfl,(Zr (Al:=AlP E.h ops o) U B h3 hbi (by rw[<-O,u];exact h1) k1 k2).sub (λ_ h=>h) (λ_ _=>Sub.refl _) W,?_,λi hn hx hd=>?_⟩
  .rw[<-O,CH u]at hp
   obtain⟨y,J,rfl⟩:=mem_map.1 hp;exact Y y J
  .rw[B,<-O]
   show VLe (AI _ d (Am (l'.map (Cl.v s.r)))) (λi=>(AK (CS _ s.t) d (.agg l') i).v s.r)
   rw[B4];exact(kill _ xs u rfl).upd (.inl rfl)
  .show AK (CS _ s.t) d _ i=_
   unfold AK;rw[BK λe=>hd (by rw[B,e])]
   exact deadN _ i Y hn
 .-- a slice's literal
  rename_i ty n ps d U B;obtain⟨xs,O⟩:∃xs,xs=ps.toList.map (·.2):=⟨_,rfl⟩
  rw[<-O]at h;have u:=Qk own xs;obtain⟨hb,h⟩:=Bc h;simp only[bAE]at hb;obtain⟨⟨h1,h2⟩,h3⟩:=hb;have h3:d<E.h.n:=blE h3
  have Y:∀y∈jsO (xs.map (KW s)),mvB ops o y=true:=by
   intro y J;split at h2
   .cases h2
   .rename_i a l e;rw[e]at J;exact aET.1 h2 y J
  split at h
  case h_2=>cases h
  rename_i j hj;obtain⟨e,hsl,_⟩:=Dz hE.Θ hj;obtain⟨hb2,h⟩:=Bc h;simp only[bAE]at hb2;have hw:=Lk hb2.1;have hnw:=blE hb2.2;split at h
  case h_2=>cases h
  rename_i l hl;obtain⟨hk,h⟩:=Bc h;split at h
  case h_2=>cases h
  rename_i zs hzs;cases h;obtain⟨k1,k2⟩:=LE (ev:=Ms.ev ⟨t,s.den.σ⟩) _ _ _ (λp _=>hev p.2) hl
  rw[We s.r j.ty n hw]at k2;obtain⟨p1,p2,p3⟩:=O8 s.r n _ zs hzs
  have W:Sub (.nd true true j.ty.w n λi k=>(l.map (Cl.v s.r)).getD (i*j.ty.w+k) .dead) (cV (.sl j.ty) (j.sd+1) zs):=by
   show Sub _ (V.nd true true j.ty.w zs.length _);rw[p1];refine⟨_,rfl,λi k Z hk=>?_⟩
   have:=p3 i k Z hk;rw[List.map_map]at this;have e:(Cl.v s.r∘fit j.sd)=Cl.v s.r:=funext λy=>(fitO_v _ s.r y).1
   rw[e]at this;exact this
  refine⟨_,_,λp hp=>?_,by rw[U];rfl,(MS (Al:=AlP E.h ops o) U B h3 hsl hw hnw (by rw[<-O,u];exact h1) k1 k2 ?_).sub (λ_ h=>h) (λ_ _=>Sub.refl _) W,?_,λi hn hx hd=>?_⟩
  .rw[<-O,CH u]at hp
   obtain⟨y,J,rfl⟩:=mem_map.1 hp;exact Y y J
  .intro v hv
   obtain⟨y,J,rfl⟩:=mem_map.1 hv;exact(W3 (aET.1 hk y J)).1
  .rw[B,<-O]
   show VLe (AI _ d _) (λi=>(AK (CS _ s.t) d _ i).v s.r)
   rw[B4];exact(kill _ xs u rfl).upd (.inl rfl)
  .show AK (CS _ s.t) d _ i=_
   unfold AK;rw[BK λe=>hd (by rw[B,e])]
   exact deadN _ i Y hn
 .-- a store
  rename_i ty p x U B;split at h
  case h_2=>cases h
  rename_i lp l i hp hl Z;obtain⟨hb,h⟩:=Bc h;simp only[cond_true,Option.some.injEq,Prod.mk.injEq]at h;obtain⟨rfl,rfl,rfl⟩:=h;simp only[bAE,or_eq_true]at hb;obtain⟨⟨⟨⟨⟨⟨h1,h2⟩,h3⟩,h4⟩,h5⟩,h6⟩,h7⟩:=hb;have h2:p<E.h.n:=blE h2;have h3:=bqE h3;have h4:=bqE h4;obtain⟨y,J,hyl⟩:=bind_eq_some_iff.1 hl;obtain⟨g1,g2,g3⟩:=QP (r:=s.r) hyl;have hx:Ms.ev ⟨t,s.den.σ⟩ x=y.v s.r:=by
   rw[<-Bf J];refine hev x ?_;rw[Bf J];intro e;rw[e]at g1;cases g1
  have htp:t p=Bp true (lp.map Cl.v0):=by
   have e:s.den.t p=Bp true (lp.map Cl.v0):=newC_v hp s.r;rcases ht p with h|⟨h,_⟩
   .rw[h,e]
   .rw[e]at h;cases h
  have hxp:x≠.tmp p:=by
   rintro rfl
   have h7:(!beq p p)=true:=h7;rw[beq_refl]at h7;cases h7
  have u:=Qk own [x];have hlv:l.map (Cl.v s.r)=l.map Cl.v0:=List.map_congr_left λc hc=>(W3 (aET.1 h5 c hc)).2
  have Y:∀y∈jsO ([x].map (KW s)),mvB ops o y=true:=aET.1 h6;have hti:=hE.Θ.ty Z
  have hlq:=Zq (Al:=AlP E.h ops o) (P:=P) (N:=E.h.n) (σ:=s.den.σ) (t:=t) U B hti htp (by simpa using h3) h2 hxp (by rw[hx];exact g1) (by rw[hx,g2];simpa using h4)
   (by
    rw[hx,g2];intro v hv;obtain⟨c,hc,rfl⟩:=mem_map.1 hv;exact(W3 (aET.1 h5 c hc)).1)
   (by
    rw[hx,g2];intro v hv;obtain⟨c,hc,rfl⟩:=mem_map.1 hv;exact g3 c hc)
  rw[hx,g2,hlv]at hlq;have hnp:p∉Bd t [x]:=by
   intro hm;rw[CH u]at hm;cases x with
   |tmp z=>
    have hz:z≠p:=λe=>hxp (by rw[e])
    have hm:p∈jsO [bif(s.t z).own then some z else none]:=hm;cases ho:(s.t z).own with
    |true=>rw[ho]at hm;exact hz (mem_singleton.1 hm).symm
    |false=>rw[ho]at hm;cases hm
   |const v=>cases hm
   |global g=>cases hm
   |func f=>cases hm
  have W:Sub (Bp true (l.map Cl.v0)) (Bp true ((Uz lp l).map Cl.v0)):=by
   unfold Bp;have e:((Uz lp l).map Cl.v0).length=(l.map Cl.v0).length:=by simp[L9]
   rw[e];refine⟨_,rfl,λi k Z hk=>?_⟩
   obtain rfl:i=0:=by omega
   exact ZV lp l k
  refine⟨(p,.put (Bp true ((Uz lp l).map Cl.v0)))::(Bd t [x]).map λy=>(y,.all),.dead,λq hq=>?_,by rw[U];rfl,hlq.sub (λz hz=>?_) (λz v=>?_) (Sub.refl _),?_,λi hn hx hd=>?_⟩
  .rcases mem_cons.1 hq with rfl|hq
   .show(mvB ops o p||mvR ops o p||mvC ops o p)=true
    rcases h1 with h1|h1
    .rw[h1];rfl
    .rw[h1.2,Bool.or_true];rfl
   .rw[CH u]at hq
    obtain⟨y,J,rfl⟩:=mem_map.1 hq;exact Y y J
  .by_cases hzp:z=p
   .subst hzp;rw[HI];simp
   .rw[HH hzp]at hz⊢;exact hz
  .by_cases hz:z=p
   .subst hz;rw[HI,HI];exact W
   .rw[HH hz,HH hz];exact Sub.refl _
  .rw[B]
   show VLe (AP _ t) (λi=>(AK (CS _ s.t) p (.new (Uz lp l)) i).v s.r)
   rw[B4];have hk:=kill _ [x] u rfl;intro i;unfold AI;by_cases Z:i=p
   .subst Z
    rw[if_pos rfl];unfold AP;rw[HI];exact .inl rfl
   .rw[if_neg Z]
    have:=hk i;unfold AP at this⊢;rw[HH Z];exact this
  .show AK (CS _ s.t) p _ i=_
   unfold AK;have hip:i≠p:=by
    rcases h1 with h1|h1
    .exact notW p i hn h1
    .rintro rfl
     have:yB E ops i=true:=by
      unfold yB;refine any_eq_true.2 ⟨o,hmo,?_⟩;have e:stB o i=true:=by unfold stB;rw[U];exact beq_refl i
      rw[h1.1,e,Bool.or_true];rfl
     rw[hx]at this;cases this
   rw[BK hip];exact deadN _ i Y hn
theorem own_le(B:VLe t s.den.t)(y:Nat):AN (t y)=(s.t y).own:=by
 have u:AN (s.den.t y)=(s.t y).own:=Sl.own_v (s.t y);rcases B y with e|⟨O,J⟩
 .grind
 .rw[O]at u;rw[J,<-u];rfl
theorem Abo{ops:Array Oper}{y:Nat}(W:As ops.toList i=true)(O:mvB ops o y=true):i≠y:=by
 rintro rfl
 unfold mvB at O;rw[bAE]at O;obtain⟨e,_,_,u⟩:=Hf O.2;unfold AH at u;rw[bind_eq_some_iff]at u;obtain⟨ok,J,B⟩:=u;have U:=by
  rw[<-getElem?_toList]at J;exact mem_of_getElem? J
 have:As [ok] i=true:=by
  unfold As at W⊢
  grind
 exact(AL this).1 B
theorem Ab7{ops:Array Oper}(B:∀y∈js,mvB ops o y=true)(u:As ops.toList i=true):CS js s.t i=s.t i:=by
 unfold CS;have:js.contains i=false:=by
  cases J:js.contains i with
  |false=>rfl
  |true=>exact absurd rfl (Abo u (B i (by grind)))
 grind
theorem Ab6(J:VLe t s.den.t){xs:List Operand}(B:xs.map (Ik t)=xs.map (KW s))(O:js=jsO (xs.map (KW s))):VLe (AP ((Bd t xs).map λy=>(y,.all)) t) (λi=>(CS js s.t i).v s.r):=by
 intro i;rw[Dh,CH B,<-O];show le1 _ ((bif js.contains i then Sl.one Cl.dead else s.t i).v s.r);by_cases u:i∈js
 .have:js.contains i=true:=by grind
  rw[if_pos u,this];exact .inl rfl
 .have:js.contains i=false:=by grind
  rw[if_neg u,this];exact J i
def onlyS(s:St)(y:Operand):St:=⟨λi=>match y with
 |.tmp z=>bif beq i z then s.t i else .one .dead
 |_=>.one .dead,s.r⟩
theorem OA{N:Nat}(ht:VLe t s.den.t){x y:Operand}{ys:List ty.T}(hyo:y∈op.operands)(h:Vi s ty (s.ev y)=some (d,ys)):
  ∀(C:Ctx) (ρ:Nat->Value) (F:Nat->Nat->Prop) (a:Act) (w:World) (D:Nat->Prop) (T:Nat->Nat->Prop) (t':Nat->V),(∀z∈Ha op,t' z=t z)->PR C N s.den.σ ρ F t' a w D T->
   ∃Fy,U7 D w ty.w ys.length (λi k=>(tyV ty d (ys.getD i ty.dflt)).getD k .dead) (a.eval y) Fy/\(∀i k c,i<ys.length->k<ty.w->Fy i k c->opF t' T [x,y] 1 c)/\
    ∀i k i' k' c,i<ys.length->k<ty.w->i'<ys.length->k'<ty.w->(i≠i'\/k≠k')->Fy i k c->¬Fy i' k' c:=by
 intro C ρ F a w D T t' hag hp;have hev:∀v,s.ev y=some v->v.v s.r≠.dead->Ms.ev ⟨t',s.den.σ⟩ y=v.v s.r:=by
  intro v hv W;rw[<-Bf hv]at W⊢;have h1:Ms.ev ⟨t,s.den.σ⟩ y=s.den.ev y:=((ht.ev (σ:=s.den.σ) y).resolve_right λe=>W e.1)
  rw[<-h1];cases y with
  |tmp z=>exact hag z (Ds hyo)
  |const v=>rfl
  |global g=>rfl
  |func f=>rfl
 unfold Vi at h;split at h
 .rename_i t1 d1 ys1 u
  split at h
  case isFalse=>cases h
  rename_i e;subst e;obtain⟨hno,h⟩:=Bc h;cases h;have hv:=hev _ u (by intro e;cases e)
  have hr:=hp.opF_rel (xs:=[x,y]) (j:=1) (x:=y) rfl;rw[hv]at hr;exact Wk (R:=Aq s.den.σ ρ w) hr λi k hi hk=>Dr _ _ _ k hno hk
 .rename_i W
  split at h
  case h_2=>cases h
  rename_i d1 ys1 u;cases h
  -- the value's slot owns nothing
  obtain⟨J,B⟩:∃J,J=onlyS s y:=⟨_,rfl⟩;have Y:J.den.σ=s.den.σ:=by rw[B];rfl
  have hs2:J.ev y=s.ev y:=by
   rw[B];cases y with
   |tmp z=>
    show some (bif beq z z then s.t z else .one .dead)=some (s.t z);rw[beq_refl];rfl
   |const v=>rfl
   |global g=>rfl
   |func f=>rfl
  have hdn:∀z,y=.tmp z->(t' z=s.den.t z/\(s.t z).own=false/\z<N):=by
   intro z hz;subst hz;have u:U5 s ty s.r.length (some (s.t z))=some (d,ys,[]):=u
   have hnotown:(s.t z).own=false:=by
    have u:=(XH u).1;unfold U4 at u;split at u
    case h_4=>cases u
    .rename_i e;rw[Option.some.inj e];rfl
    .rename_i e;rw[Option.some.inj e];rfl
    .rename_i e;rw[Option.some.inj e];rfl
   have O:(s.t z).v s.r≠.dead:=by
    have u:=(XH u).1;unfold U4 at u;split at u
    case h_4=>cases u
    .rename_i e;rw[Option.some.inj e];intro e';cases e'
    .rename_i e;rw[Option.some.inj e];intro e';cases e'
    .rename_i e;rw[Option.some.inj e];intro e';cases e'
   have e1:t' z=s.den.t z:=hev (s.t z) rfl O;refine⟨e1,hnotown,Nat.lt_of_not_le λhz=>?_⟩
   have:=hp.dd z hz;rw[e1]at this;exact O this
  have U:∀i,J.den.t i=.dead\/(J.den.t i=t' i/\AN (t' i)=false):=by
   intro i;rw[B];cases y with
   |tmp z=>
    show(bif beq i z then s.t i else .one .dead).v s.r=.dead\/_;by_cases Z:i=z
    .subst Z
     obtain⟨e1,e2,_⟩:=hdn i rfl;right;refine⟨?_,?_⟩
     .show(bif beq i i then s.t i else .one .dead).v s.r=_
      rw[beq_refl,e1];rfl
     .rw[e1]
      have h5:AN (s.den.t i)=(s.t i).own:=Sl.own_v (s.t i);rw[h5];exact e2
    .rw[BK Z];exact .inl rfl
   |const v=>exact .inl rfl
   |global g=>exact .inl rfl
   |func f=>exact .inl rfl
  have hcr:=hp.cr (t2:=J.den.t) U;have hdd:∀i,N<=i->J.den.t i=.dead:=by
   intro i hi;rcases U i with h|⟨h,_⟩
   .exact h
   .rw[h];exact hp.dd i hi
  have hy2:U5 J ty s.r.length (J.ev y)=some (d,ys,[]):=by rw[hs2,B];exact u
  rw[<-Y]at hcr;obtain⟨⟨Fy,h1,h2,h3⟩,_⟩:=Iv (s:=J) hcr hdd hy2;exact⟨Fy,h1,λi k c hi hk hF=>(by obtain⟨j,hj,_⟩:=h2 i k c hi hk hF;cases hj),h3⟩
theorem Yb(Z:VLe t s.den.t){d' U:Nat}{xs:List ty.T}(u:Vj ty d' (s.ev x)=some (U,xs)):
  Sub (Ms.ev ⟨t,s.den.σ⟩ x) (.nd true true ty.w xs.length λi k=>(tyV ty U (xs.getD i ty.dflt)).getD k .dead):=by
 have J:∀v,s.ev x=some v->v.v s.r≠.dead->Ms.ev ⟨t,s.den.σ⟩ x=v.v s.r:=by
  intro v Y B;rw[<-Bf Y]at B⊢;exact(Z.ev x).resolve_right λe=>B e.1
 unfold Vj at u;split at u
 .rename_i t1 d1 W O
  split at u
  case isFalse=>grind
  rename_i e;subst e;cases u;rw[J _ O (by intro e;cases e)]
  exact Sub.refl _
 .rename_i O
  cases u;rw[J _ O (by intro e;cases e)]
  exact .inr ⟨rfl,_,_,_,rfl⟩
 grind
theorem appO_v(hE:EOK P E){ops:Array Oper}{A:AO}(ht:VLe t s.den.t)(h:appO E ops s o=some A)(hA:A.p):
  ∃ys r,(∀p∈ys,Jc ops o p=true)/\UA o.op=true/\LQ P E.h.n s.den.σ (AlP E.h ops o) o t ys r/\VLe (Iy o.dst r (AP ys t)) (St.den ⟨AK (CS A.js s.t) A.d A.y,s.r⟩).t/\
   (∀i,As ops.toList i=true->o.dst≠some i->AK (CS A.js s.t) A.d A.y i=s.t i):=by
 unfold appO at h;split at h
 case h_2=>cases h
 rename_i ty x y d J u;have J:=Acf J;split at h
 case h_2=>cases h
 rename_i j hj;obtain⟨e,hsl,_⟩:=Dz hE.Θ hj;have O:=Qk (own_le ht) [x,y];obtain⟨hb,h⟩:=Bc h;simp only[bAE]at hb;obtain⟨⟨⟨⟨h1,h2⟩,h3⟩,h4⟩,h5⟩:=hb;have h3:d<E.h.n:=blE h3;have hby:=Lk h4;have hw:=Lk h5
 have Y:∀W∈jsO ([x,y].map (KW s)),mvB ops o W=true:=by
  intro W hy;split at h2
  .cases h2
  .rename_i a l e;rw[e]at hy;exact aET.1 h2 W hy
 split at h
 case h_2=>cases h
 rename_i d' ys hys;split at h
 case h_2=>cases h
 rename_i dx xs hxs;obtain⟨hdk,h⟩:=Bc h;cases h;have hA:xs.length+ys.length<=NV j.bytes:=hA
 have hb:(xs.length+ys.length)*j.bytes<=140737488355328:=by
  rw[Nat.mul_comm];exact(Nat.mul_comm _ _▸(Nat.le_div_iff_mul_le hby).1 hA)
 have h63:xs.length+ys.length<=maxLen:=by
  have:xs.length+ys.length<=(xs.length+ys.length)*j.bytes:=Nat.le_mul_of_pos_right _ hby;simp only[maxLen];omega
 have hx:=Yb ht hxs;have ee:tyV j.ty d'=tyV j.ty dx:=funext λz=>Dl _ _ _ z (Mx hdk)
 have B:=OA (N:=E.h.n) (x:=x) ht (op:=o.op) (by rw[J];simp[Op.operands,Call.operands]) hys
 rw[ee]at B;have U:=XS (Al:=AlP E.h ops o) (P:=P) (N:=E.h.n) (σ:=s.den.σ) (t:=t) J u h3 hsl hw hx (by rw[O];exact h1) B h63 hb
 have U:=U.sub (λ_ h=>h) (λ_ _=>Sub.refl _) (MG rfl rfl (λ_ _ _=>rfl) (λ_ _ _=>rfl))
 dsimp only
 generalize hz:(bif E.h.fz.contains d then Za (Sl.one (.c (.sl j.ty) (dx+1) (Acc xs ys)))else .one (.c (.sl j.ty) (dx+1) (Acc xs ys)))=z
 have Z:∃r,LQ P E.h.n s.den.σ (AlP E.h ops o) o t ((Bd t [x,y]).map λy=>(y,.all)) r/\le1 r (z.v s.r):=by
  cases hf:E.h.fz.contains d with
  |false=>rw[hf]at hz;subst hz;exact⟨_,U,.inl rfl⟩
  |true=>rw[hf]at hz;subst hz;exact⟨_,U.frzR u h3,AbX (.one (.c (.sl j.ty) (dx+1) (Acc xs ys))) s.r⟩
 obtain⟨r,hlr,hle⟩:=Z;refine⟨_,r,λp hp=>?_,by rw[J];rfl,hlr,?_,λi hn hd=>?_⟩
 .rw[CH O]at hp
  obtain⟨W,hy,rfl⟩:=mem_map.1 hp;exact Y W hy
 .rw[u]
  show VLe (AI _ d _) (λi=>(AK (CS _ s.t) d _ i).v s.r)
  rw[B4];exact(Ab6 ht O rfl).upd hle
 .show AK (CS _ s.t) d _ i=_
  unfold AK;rw[BK λe=>hd (by rw[u,e])]
  exact Ab7 Y hn
theorem DJ{l:List Oper}(h:∀o∈g,o∈l)(u:As l i=true):As g i=true:=by
 unfold As at u⊢
 grind
theorem Abz(h:le1 v v'):AN v=AN v':=by
 rcases h with e|⟨B,u⟩
 .grind
 .rw[u,B];rfl
theorem Abn(h:UB s x=true):AN (s.den.ev x)=false:=by
 unfold UB at h;split at h
 .rename_i y u
  rw[Bf u];have B:AN (y.v s.r)=y.own:=Sl.own_v y
  grind
 grind
theorem NT:∀{ρ:Asm}{c:Nat}{v:Bool},YU ρ c=some v->∃j,(j,c,v)∈ρ
 |[],_,_,h=>by cases h
 |(i,d,u)::ρ,c,v,h=>by
  unfold YU at h;cases B:beq d c with
  |true=>
   simp_all
  |false=>
   rw[B]at h;obtain⟨j,J⟩:=NT h
   grind
theorem HJ:∀{ρ:Asm}{j:Nat}{v:Bool},WV ρ j=some v->∃d,(j,d,v)∈ρ
 |[],_,_,h=>by cases h
 |(i,d,u)::ρ,j,v,h=>by
  unfold WV at h;cases B:beq i j with
  |true=>
   simp_all
  |false=>
   rw[B]at h;obtain⟨J,hd⟩:=HJ h
   grind
def CW(ops:Array Oper)(ρ:Asm)(S:Nat->V):Prop:=∀x∈ρ,(ops[x.1]?).bind (·.dst)=some x.2.1/\S x.2.1=.c (.bool x.2.2)
theorem Ii{ops:Array Oper}{ρ:Asm}{v:Bool}(W:VLe t s.den.t)(J:CW ops ρ s.den.t)(h:NJ ρ s op=some v)(hK:K (.c (.bool v))):Nu P s.den.σ (Ms.ev ⟨t,s.den.σ⟩) op K:=by
 unfold NJ at h;split at h
 case h_2=>cases h
 rename_i c x y;cases B:(UB s x&&UB s y)with
 |false=>rw[B]at h;cases h
 |true=>
 rw[B]at h;rw[bAE]at B;simp only[cond_true]at h;split at h
 case h_2=>cases h
 rename_i u hu;obtain⟨j,hj⟩:=NT hu;obtain⟨_,Z⟩:=J _ hj;have U:t c=.c (.bool u):=by
  rcases W c with e|e
  .rw[e];exact Z
  .rw[Z]at e;cases e.1
 have ev:∀x v,s.den.ev x=.c (.bool v)->Ms.ev ⟨t,s.den.σ⟩ x=.c (.bool v):=λx v O=>by
  rcases W.ev (σ:=s.den.σ) x with e|e
  .rw[e];exact O
  simp_all
 have Y:=λx O=>(Abz (W.ev (σ:=s.den.σ) x)).trans (Abn O)
 have hv:=valB_v h;show Wo (t c) (Ms.ev ⟨t,s.den.σ⟩ x) (Ms.ev ⟨t,s.den.σ⟩ y) K;rw[U];refine⟨Y x B.1,Y y B.2,λe=>?_,λe=>?_⟩
 .subst e
  rw[ev x v hv];exact hK
 grind
theorem W6(h:AbD (s.t d)=true):s.den.t d=udV:=by
 show(s.t d).v s.r=_;unfold AbD at h;split at h
 .rename_i e;rw[e];rfl
 grind
theorem Abg{d:Option Nat}(B:VLe t s.den.t)(h:C6 E.h s d=some s'):s'.r=s.r/\(∀e,d=some e->e<E.h.n)/\(∀i,d≠some i->s'.t i=s.t i/\Kf t d i=t i)/\VLe (Kf t d) s'.den.t/\∀e,d=some e->AN (Kf t d e)=false:=by
 unfold C6 at h;split at h
 .rename_i d
  cases O:blt d E.h.n with
  |false=>grind
  |true=>
   rw[O]at h;cases h;refine⟨rfl,λe u=>by simp_all,λi J=>⟨?_,if_neg λe=>J (by grind)⟩,?_,λe u=>?_⟩
   .show AK s.t d _ i=_
    unfold AK;rw[BK λe=>J (by grind)];rfl
   .show VLe (AI t d udV) (λi=>(AK s.t d (.tup []) i).v s.r)
    rw[B4];exact B.upd (.inl rfl)
   .cases u
    show AN (AI t d udV d)=false;unfold AI;rw[if_pos rfl];rfl
 .cases h
  exact⟨rfl,(λe u=>by grind),(λ_ _=>⟨rfl,rfl⟩),B,λe u=>by grind⟩
theorem setB_v{d:Option Nat}{v:Bool}{K:(Nat->V)->Prop}(J:VLe t s.den.t)(h:Acn E.h s d v=some s')(U:∀t',s'.r=s.r->(∀i,d≠some i->s'.t i=s.t i/\t' i=t i)->VLe t' s'.den.t->(∀e,d=some e->AN (t' e)=false)->K t'):QK E.h d t K (.c (.bool v)):=by
 unfold Acn at h;split at h
 case h_2=>grind
 rename_i d;cases u:(blt d E.h.n&& !E.h.fz.contains d)with
 |false=>grind
 |true=>
 rw[u]at h;rw[bAE,not_eq_true']at u;cases h;refine⟨blE u.1,?_⟩;simp only[u.2,if_false];refine U _ rfl (λi B=>⟨?_,if_neg λe=>B (by grind)⟩) ?_ λe O=>?_
 .show AK s.t d _ i=_
  unfold AK;rw[BK λe=>B (by grind)];rfl
 .show VLe (AI t d _) (λi=>(AK s.t d (.one (.c .bool 0 v)) i).v s.r)
  rw[B4];exact J.upd (.inl rfl)
 .cases O
  unfold AI;rw[if_pos rfl];rfl
variable (hE:EOK P E)
include hE
theorem stepq{R:Type}{s:St}{o:Oper}{f:Sl->Option St}{K:St->Option R}{z:R}{t:Nat->V}{Kt:(Nat->V)->Prop}(U:VLe t s.den.t)(h:(AaF E s o.type o.op λy=>match f y with
   |some s'=>K s'
   |none=>none)=some z) (hf:∀y s',f y=some s'->s.putX true E.h o.dst y=some s')
  (hK:∀s' t' y,s'.r=s.r->(∀i,o.dst≠some i->s'.t i=s.t i/\t' i=t i)->VLe t' s'.den.t->f y=some s'->(∀e,o.dst=some e->(y.own&& !fzD E.h o.dst)=false->AN (t' e)=false)->K s'=some z->Kt t'):qop P s.den.σ (Ms.ev ⟨t,s.den.σ⟩) o.op (QK E.h o.dst t Kt):=by
 obtain⟨hl,y,hq,O⟩:=H4 hE h;split at O
 case h_2=>grind
 rename_i s' u;have W:=hf y s' u;obtain⟨Z,e,he,hi⟩:=putH_r W;refine qop_le U hl (Nt hq λr0 J=>⟨y.v s.r,J,putH_v W U λt' B h1 h2=>hK s' t' y Z (λi Y=>⟨hi i λh=>Y (by grind),h1 i Y⟩) B u h2 O⟩)
theorem pathg{ops:Array Oper}{z:Bool}{Kt:(Nat->V)->Prop}{B:List Oper}:∀(g:List Oper) (ρ:Asm) (s:St) (t:Nat->V) (K:Asm->St->Option Bool),CW ops ρ s.den.t->(∀x∈ρ,As g x.2.1=true)->VLe t s.den.t->CF E true ops g ρ s K=some z->
  (∀ρ' s' t',s'.r=s.r->(∀i,As g i=true->s'.t i=s.t i/\t' i=t i)->(∀i,As g i=false->AN (t' i)=false)->VLe t' s'.den.t->CW ops ρ' s'.den.t->K ρ' s'=some z->vq P E.h ops s.den.σ B Kt t')->vq P E.h ops s.den.σ (g++B) Kt t:=by
 intro g
 induction g with
 |nil=>intro ρ s t K Y _ ht h hK;exact hK ρ s t rfl (λ_ _=>⟨rfl,rfl⟩) (λi hi=>by cases hi) ht Y h
 |cons o g ih=>
  intro ρ s t K Y hnd ht h hK
  have hc:∀i,As (o::g) i=((match o.dst with
   |some e=>!beq e i
   |none=>true)&&As g i):=λ_=>rfl
  unfold CF at h;split at h
  case h_1=>cases h
  rename_i j J hgo;split at h
  case h_1=>cases h
  rename_i dj hdj;rw[List.cons_append]
  -- what is behind this operation
  have cont:∀(u:Asm) (s1:St) (t1:Nat->V),CW ops u s.den.t->(∀x∈u,As (o::g) x.2.1=true)->s1.r=s.r->(∀i,o.dst≠some i->s1.t i=s.t i/\t1 i=t i)->VLe t1 s1.den.t->(∀e,o.dst=some e->AN (t1 e)=false)->CF E true ops g u s1 K=some z->vq P E.h ops s.den.σ (g++B) Kt t1:=by
   intro u s1 t1 U W hr hi ht1 ho h1;have hσ:s1.den.σ=s.den.σ:=by show s1.r.map Ae.v=s.r.map Ae.v;rw[hr]
   rw[<-hσ];refine ih u s1 t1 K (λx hx=>⟨(U x hx).1,?_⟩) (λx hx=>(AL (W x hx)).2) ht1 h1 λρ2 s2 t2 h2 O h3' h4 h5 h6=>?_
   .show(s1.t x.2.1).v s1.r=_
    rw[(hi _ (AL (W x hx)).1).1,hr];exact(U x hx).2
   .rw[hσ]
    refine hK ρ2 s2 t2 (h2.trans hr) (λi hn=>?_) (λi hn=>?_) h4 h5 h6
    .obtain⟨n1,n2⟩:=AL hn
     exact⟨(O i n2).1.trans (hi i n1).1,(O i n2).2.trans (hi i n1).2⟩
    .by_cases hg2:As g i=true
     .rw[(O i hg2).2]
      rw[hc,hg2,Bool.and_true]at hn;split at hn
      .rename_i e he
       have:e=i:=bqE (by simpa using hn)
       subst this;exact ho e he
      .cases hn
     .exact h3' i (by simpa using hg2)
  have pass:∀u:Asm,CW ops u s.den.t->(∀x∈u,As (o::g) x.2.1=true)->onS (C6 E.h s o.dst) (λs'=>CF E true ops g u s' K)=some z->(∀d,o.dst=some d->d<E.h.n)/\vq P E.h ops s.den.σ (g++B) Kt (Kf t o.dst):=by
   intro u h1 h2 O;cases hp:C6 E.h s o.dst with
   |none=>rw[hp]at O;cases O
   |some s1=>
    rw[hp]at O;obtain⟨q1,q2,q3,q4,q5⟩:=Abg ht hp;exact⟨q2,cont u s1 _ h1 h2 q1 q3 q4 q5 O⟩
  have step:∀u:Asm,CW ops u s.den.t->(∀x∈u,As (o::g) x.2.1=true)->LH E true u s o (λs'=>CF E true ops g u s' K)=some z->qop P s.den.σ (Ms.ev ⟨t,s.den.σ⟩) o.op (QK E.h o.dst t (vq P E.h ops s.den.σ (g++B) Kt)):=by
   intro u h1 h2 O;unfold LH at O;split at O
   .rename_i v hv
    split at O
    case h_2=>cases O
    rename_i s1 hs1;exact Ii ht h1 hv ⟨_,Sub.refl _,setB_v ht hs1 λt' q1 q2 q3 q4=>cont u s1 t' h1 h2 q1 q2 q3 q4 O⟩
   .refine stepq hE (f:=λy=>bif y.own&& !fzD E.h o.dst then none else s.putX true E.h o.dst y) (K:=λs'=>CF E true ops g u s' K) ht O (λy s' hy=>?_) λs' t' y hr hi ht' hfy ho hy=>?_
    .cases Z:y.own&& !fzD E.h o.dst with
     |true=>rw[Z]at hy;cases hy
     |false=>rw[Z]at hy;exact hy
    have Z:(y.own&& !fzD E.h o.dst)=false:=by
     cases Z:y.own&& !fzD E.h o.dst with
     |true=>rw[Z]at hfy;cases hfy
     |false=>rfl
    exact cont u s' t' h1 h2 hr hi ht' (λe he=>ho e he Z) hy
  -- what the guard yields
  have run:∀v:Bool,s.den.t dj=.c (.bool v)->gv t ops j=.c (.bool v):=λv hv=>by
   unfold gv;rw[hdj];rcases ht dj with e|e
   .rw[<-hv];exact e
   .rw[hv]at e;cases e.1
  unfold vq;rw[hgo]
  have known:∀(u:Asm) (v:Bool),s.den.t dj=.c (.bool v)->CW ops u s.den.t->(∀x∈u,As (o::g) x.2.1=true)->(v=J->LH E true u s o (λs'=>CF E true ops g u s' K)=some z)->(v=(!J)->onS (C6 E.h s o.dst) (λs'=>CF E true ops g u s' K)=some z)->
    (match gv t ops j with
     |.c (.bool b)=>(b=J->qop P s.den.σ (Ms.ev ⟨t,s.den.σ⟩) o.op (QK E.h o.dst t (vq P E.h ops s.den.σ (g++B) Kt)))/\(b=(!J)->(∀d,o.dst=some d->d<E.h.n)/\vq P E.h ops s.den.σ (g++B) Kt (Kf t o.dst))
     |v=>v=udV/\(∀d,o.dst=some d->d<E.h.n)/\vq P E.h ops s.den.σ (g++B) Kt (Kf t o.dst)):=by
   intro u v hv h1 h2 O h4;rw[run v hv];exact⟨λe=>step u h1 h2 (O e),λe=>pass u h1 h2 (h4 e)⟩
  cases hu:AbD (s.t dj)with
  |true=>
   rw[hu]at h;have hgv:gv t ops j=udV:=by
    unfold gv;rw[hdj];have hv:=W6 hu;rcases ht dj with e|e
    .rw[<-hv];exact e
    .rw[hv]at e;cases e.1
   obtain⟨p1,p2⟩:=pass ρ Y hnd h
   have hm:(match gv t ops j with
     |.c (.bool b)=>(b=J->qop P s.den.σ (Ms.ev ⟨t,s.den.σ⟩) o.op (QK E.h o.dst t (vq P E.h ops s.den.σ (g++B) Kt)))/\(b=(!J)->(∀d,o.dst=some d->d<E.h.n)/\vq P E.h ops s.den.σ (g++B) Kt (Kf t o.dst))
     |v=>v=udV/\(∀d,o.dst=some d->d<E.h.n)/\vq P E.h ops s.den.σ (g++B) Kt (Kf t o.dst)):=by
    rw[hgv];exact⟨rfl,p1,p2⟩
   exact hm
  |false=>
   rw[hu]at h;simp only[cond_false]at h;split at h
   .rename_i v hv
    obtain⟨d',hm⟩:=HJ hv;obtain⟨e1,e2⟩:=Y _ hm;have e1:some dj=some d':=hdj.symm.trans e1;cases e1;refine known ρ v e2 Y hnd (λe=>?_) λe=>?_
    .subst e;simpa using h
    .subst e;cases J<;>exact h
   .split at h
    case h_2=>cases h
    rename_i dd b hb;have hbv:s.den.t dj=.c (.bool b):=by show(s.t dj).v s.r=_;rw[hb];rfl
    obtain⟨hn,h⟩:=Bc h
    have U:CW ops ((j,dj,b)::ρ) s.den.t:=λx hx=>by
     rcases mem_cons.1 hx with rfl|hx
     .exact⟨hdj,hbv⟩
     .exact Y x hx
    have W:∀x∈(j,dj,b)::ρ,As (o::g) x.2.1=true:=λx hx=>by
     rcases mem_cons.1 hx with rfl|hx
     .exact hn
     .exact hnd x hx
    refine known ((j,dj,b)::ρ) b hbv U W (λe=>?_) λe=>?_
    .subst e;cases b<;>exact h
    .subst e;cases J<;>exact h
theorem Yj{ops:Array Oper}{K:St->Option R}{z:R}{Kt:(Nat->V)->Prop}:∀(l:List Seg) (s:St) (t:Nat->V),(∀o∈l.flatMap Seg.ops,o∈ops.toList)->VLe t s.den.t->
  Va E true ops l s K=some z->(∀s' t',s'.r=s.r->(∀i,As ops.toList i=true->yB E ops i=false->s'.t i=s.t i)->VLe t' s'.den.t->K s'=some z->Kt t')->vq P E.h ops s.den.σ (l.flatMap Seg.ops) Kt t:=by
 intro l
 induction l with
 |nil=>intro s t _ ht h hK;exact hK s t rfl (λ_ _ _=>rfl) ht h
 |cons sg l ih=>
  intro s t hsub ht h hK;rw[flatMap_cons]at hsub;have W:∀o∈sg.ops,o∈ops.toList:=λo ho=>hsub o (List.mem_append_left _ ho)
  have J:∀o∈l.flatMap Seg.ops,o∈ops.toList:=λo ho=>hsub o (List.mem_append_right _ ho)
  cases sg with
  |one o=>
   unfold Va at h;split at h
   case h_2=>cases h
   rename_i hg;rw[flatMap_cons];show vq P E.h ops s.den.σ (o::l.flatMap Seg.ops) Kt t;unfold vq;rw[hg];cases hal:alM E.h ops o with
   |true=>
    rw[hal]at h;simp only[Bool.and_self,cond_true]at h;split at h
    case h_2=>cases h
    rename_i d hd;obtain⟨hb,h⟩:=Bc h;refine .inr ⟨rfl,d,hd,blE hb,?_⟩;refine ih ⟨AK s.t d (.one .dead),s.r⟩ _ J ?_ h λs2 t2 h2 O h3 h4=>hK s2 t2 h2 (λi B Z=>?_) h3 h4
    .show VLe _ (λi=>(AK s.t d (.one .dead) i).v s.r)
     rw[B4];exact ht.upd (.inl rfl)
    .rw[O i B Z]
     show AK s.t d (.one .dead) i=s.t i;unfold AK;rw[BK λe=>(AL (o:=o) (g:=[]) (DJ (g:=[o]) (λo' ho'=>W o' ho') B)).1 (by rw[hd,e])]
     rfl
   |false=>
   rw[hal]at h;simp only[Bool.and_false,cond_false]at h;refine .inl ⟨rfl,?_⟩;have nd:∀i,As ops.toList i=true->o.dst≠some i:=λi B=>(AL (o:=o) (g:=[]) (DJ (g:=[o]) (λo' ho'=>W o' ho') B)).1
   split at h
   .rename_i y u d z' hmv
    obtain⟨hdst,hdn,hfz,ys,hys,hmq,hvl,Y⟩:=mvF_v ht hmv;refine .inr (.inl ⟨ys,d,z'.v s.r,hdst,hdn,hfz,hys,hmq,?_⟩);refine ih ⟨AK (AK s.t y u) d z',s.r⟩ _ J hvl h λs2 t2 h2 O h3 h4=>hK s2 t2 h2 (λi B Z=>?_) h3 h4
    rw[O i B Z];have hid:i≠d:=λe=>nd i B (by rw[hdst,e])
    have hiy:i≠y:=by
     rintro rfl
     rcases Y with⟨e,he,hb,Y⟩|⟨hx1,hx2⟩
     rotate_left
     .have:yB E ops i=true:=by
       unfold yB;exact any_eq_true.2 ⟨o,W o (mem_singleton.2 rfl),by rw[hx1,hx2];rfl⟩
      rw[Z]at this;cases this
     unfold AH at Y;rw[bind_eq_some_iff]at Y;obtain⟨ok,hok,hokd⟩:=Y;have hmem:ok∈ops.toList:=by
      rw[<-getElem?_toList]at hok;exact mem_of_getElem? hok
     exact(AL (o:=ok) (g:=[]) (DJ (g:=[ok]) (λo' ho'=>by rw[mem_singleton.1 ho'];exact hmem) B)).1 hokd
    show AK (AK s.t y u) d z' i=s.t i;unfold AK;rw[BK hid];show(bif beq i y then _ else s.t i)=s.t i;rw[BK hiy];rfl
   split at h
   .rename_i js pu ds hlq
    obtain⟨ys,r,hys,hne,hq,hvl,hnw⟩:=lqF_v hE ht hlq (W o (mem_singleton.2 rfl));refine .inr (.inr ⟨ys,r,λp hp=>.inl (hys p hp),hne,hq,?_⟩)
    refine ih ⟨ZF ds (ZF pu (CS js s.t)),s.r⟩ _ J hvl h λs2 t2 h2 O h3 h4=>hK s2 t2 h2 (λi B Z=>?_) h3 h4
    rw[O i B Z];exact hnw i B Z (nd i B)
   split at h
   .rename_i A ha
    have h: @ite _ A.p A.dec (Va E true ops l ⟨AK (CS A.js s.t) A.d A.y,s.r⟩ K) none=some z:=h;by_cases hA:A.p
    case neg=>rw[if_neg hA]at h;cases h
    rw[if_pos hA]at h;obtain⟨ys,r,hys,hne,hq,hvl,hnw⟩:=appO_v hE ht ha hA;refine .inr (.inr ⟨ys,r,λp hp=>.inl (hys p hp),hne,hq,?_⟩)
    refine ih ⟨AK (CS A.js s.t) A.d A.y,s.r⟩ _ J hvl h λs2 t2 h2 O h3 h4=>hK s2 t2 h2 (λi B Z=>?_) h3 h4
    rw[O i B Z];exact hnw i B (nd i B)
   split at h
   .rename_i A ha
    cases hu:A.o with
    |none=>rw[hu]at h;cases h
    |some u=>
    rw[hu]at h;simp only[bind_some]at h;obtain⟨ys,r,hys,hne,hq,hvl,hdst,f,xs,e,zk,g1,g2,g3,g4,g5⟩:=Ym hE.U ht ha hu;refine .inr (.inr ⟨ys,r,hys,hne,hq,?_⟩);refine ih ⟨AK (AK s.t A.y (A.u u)) A.d (A.z u),s.r⟩ _ J hvl h λs2 t2 h2 O h3 h4=>hK s2 t2 h2 (λi B Z=>?_) h3 h4
    rw[O i B Z];have hid:i≠A.d:=λe=>nd i B (by rw[hdst,e])
    have hiy:i≠A.y:=by
     rintro rfl
     have key:ucB E ops o A.y=true->False:=λhu=>by
      have:yB E ops A.y=true:=by
       unfold yB;refine any_eq_true.2 ⟨o,W o (mem_singleton.2 rfl),?_⟩;rw[or_eq_true];exact .inr hu
      rw[Z]at this;cases this
     unfold okU at g5;unfold VZ at g4;unfold ucB at key;rw[g1]at key;simp only[g2,g3]at key;cases hs:alS E.h ops o zk with
     |some y=>
      rw[hs]at g4 key;have g4:y=A.y:=g4;exact key (by rw[g4];exact beq_refl _)
     |none=>
      rw[hs]at g4 g5 key;have g4:zk=A.y:=g4;have g5:(mvB ops o zk||(dX E zk&&(mvR ops o zk||mvC ops o zk)))=true:=g5;rw[or_eq_true]at g5;rcases g5 with g5|g5
      .unfold mvB at g5
       rw[bAE]at g5;obtain⟨e1,he1,_,Y⟩:=Hf g5.2;unfold AH at Y;rw[bind_eq_some_iff]at Y;obtain⟨ok,hok,hokd⟩:=Y;have hmem:ok∈ops.toList:=by
        rw[<-getElem?_toList]at hok;exact mem_of_getElem? hok
       refine(AL (o:=ok) (g:=[]) (DJ (g:=[ok]) (λo' ho'=>by rw[mem_singleton.1 ho'];exact hmem) B)).1 ?_
       rw[hokd,g4]
      .rw[bAE]at g5
       exact key (by rw[g5.1,g4];exact beq_refl _)
    show AK (AK s.t A.y (A.u u)) A.d (A.z u) i=s.t i;unfold AK;rw[BK hid];show(bif beq i A.y then _ else s.t i)=s.t i;rw[BK hiy];rfl
   refine .inl (stepq hE (f:=λy=>s.putX true E.h o.dst y) ht h (λ_ _ h=>h) λs' t' _ hr hi ht' _ _ hy=>?_)
   have hσ:s'.den.σ=s.den.σ:=by show s'.r.map Ae.v=s.r.map Ae.v;rw[hr]
   rw[<-hσ]
   exact ih s' t' J ht' hy λs2 t2 h2 O h3 h4=>hK s2 t2 (h2.trans hr) (λi B Z=>by
    rw[O i B Z,(hi i (nd i B)).1]) h3 h4
  |grp g pk=>
   unfold Va at h;split at h
   case h_2=>cases h
   rename_i d hpd;have hpd2:pk.dst=some d/\pk.guard=none/\d<E.h.n/\E.h.fz.contains d=false:=by
    unfold YK at hpd;split at hpd
    case h_2=>cases hpd
    rename_i d' e1 e2;obtain⟨hb,hpd⟩:=Bc hpd;cases hpd;rw[bAE,not_eq_true']at hb;exact⟨e1,e2,blE hb.1,hb.2⟩
   obtain⟨e1,e2,h3,h4⟩:=hpd2;cases hv:grpB E true ops s g pk with
   |none=>rw[hv]at h;cases h
   |some v=>
    rw[hv]at h;simp only[bind_some]at h;rw[flatMap_cons];show vq P E.h ops s.den.σ ((g++[pk])++l.flatMap Seg.ops) Kt t;rw[List.append_assoc];refine pathg hE g [] s t _ (λx Z=>by cases Z) (λx Z=>by cases Z) ht hv λρ' s' t' hr hi ho ht' hρ' hs'=>?_
    rw[hr,beq_refl]at hs';have hs':NJ ρ' s' pk.op=some v:=hs';have hσ:s'.den.σ=s.den.σ:=by show s'.r.map Ae.v=s.r.map Ae.v;rw[hr]
    show vq P E.h ops s.den.σ (pk::l.flatMap Seg.ops) Kt t';unfold vq;rw[e2];refine .inl ⟨?_,.inl ?_⟩
    .cases hal:alM E.h ops pk with
     |false=>rfl
     |true=>
      obtain⟨_,_,_,hop,_⟩:=ML hal;rw[hop]at hs';cases hs'
    rw[<-hσ];refine Ii ht' hρ' hs' ⟨_,Sub.refl _,?_⟩;rw[e1,hσ];refine⟨h3,?_⟩;simp only[h4,Bool.false_eq_true,if_false]
    refine ih ⟨AK (C7 g s.t) d (.one (.c .bool 0 v)),s.r⟩ (AI t' d (.c (.bool v))) J ?_ h λs2 t2 h2 O h3 h4=>hK s2 t2 h2 (λi hn0 hx0=>by
     have B:As ((g++[pk])++l.flatMap Seg.ops) i=true:=DJ hsub hn0;unfold As at B;rw[List.all_append,List.all_append,bAE,bAE]at B;rw[O i hn0 hx0];show AK (C7 g s.t) d (.one (.c .bool 0 v)) i=s.t i;have hid:i≠d:=by
      rintro rfl
      have:=B.1.2;simp only[List.all_cons,List.all_nil,Bool.and_true,e1,beq_refl,Bool.not_true]at this;cases this
     unfold AK;rw[BK hid];show C7 g s.t i=s.t i;rw[DN,if_pos (show As g i=true from B.1.1)]) h3 h4
    show VLe _ (λi=>(AK (C7 g s.t) d (.one (.c .bool 0 v)) i).v s.r)
    rw[B4];refine VLe.upd ?_ (.inl rfl);intro i;simp only[DN];by_cases B:As g i=true
    .rw[if_pos B,(hi i B).2];exact ht i
    .rw[if_neg B];exact .inr ⟨rfl,ho i (by simpa using B)⟩
end head
end Go.Ve

