/- The typed machine. -/
import Derived.Test.YteakdlfnmhlifaaTg
import Derived.Test.YteakdlfnmhlifaaTd
open Nat(blt beq beq_refl)
open List(flatMap_cons range mem_singleton any_eq_true mem_of_getElem? mem_map mem_cons)
open Bool(not_eq_true' or_eq_true)
open Array(getElem?_toList)
open Option(bind_eq_some_iff bind_some)
set_option linter.all false
namespace Go.Ve
variable{hh:BW}{Us:List EnU}{js:List Nat}{g:List Oper}{d i k:Nat}{t t':Nat->V}{op:Op}{o:Oper}{x:Operand}{P:Program}{y:Sl}{s s':St}{ty:Ty}{R:Type}{v v':V}{K:V->Prop}
structure Env where
 Θ:Tab
 Γ:List En
 W:List EnW
 N:List EnN
 h:BW
 U:List EnU
 M:List EnM
variable{E:Env}
def IP:Op->Option (FuncId×Array Operand)
 |.call c=>match c.callee with
  |.value (.func f)=>some (f,c.args)
  |_=>none
 |_=>none
def Cl.live:Cl->Bool
 |.dead=>false
 |.c (.osl _) _ _=>false
 |.c t _ _=>t.one
 |_=>true
def Acr:Option Sl->Bool
 |some (.one y)=>y.live
 |some _=>true
 |none=>false
theorem live_v(h:Acr (s.ev x)=true):s.den.ev x≠.dead:=by
 unfold Acr at h;split at h
 .rename_i y B
  rw[Bg B];cases y with
  |c t d x=>
   cases t<;>first|(intro F;trivial)|rfl
  |dead=>cases h
  |_=>intro F;trivial
 .rename_i y H B
  rw[Bg B];cases y with
  |one c=>grind
  |_=>intro F;trivial
 grind
def St.liveX(s:St):Operand->Bool
 |.func _=>true
 |x=>Acr (s.ev x)
theorem XU(h:s.liveX x=true):s.den.ev x≠.dead:=by
 cases x with
 |func f=>
  intro e;have e:fnV f=.dead:=e;unfold fnV at e
  grind
 |_=>exact live_v h
def AbB{R:Type}(E:Env)(s:St)(ty:TypeId)(op:Op)(K:Sl->Option R):Option R:=bif op.operands.toList.all s.liveX then(match IP op with
 |some (f,xs)=>match JH E.Γ s f (xs.toList.map s.ev)with
  |some a=>DO a.o λz=>K (a.y z)
  |none=>match WV E.N s f (xs.toList.map s.ev)with
   |some a=>DO a.o λz=>V5 z.1 (K (a.y true z.2)) (K (a.y false z.2))
   |none=>none
 |none=>match cloF s op with
  |some (g,ys)=>match JH E.Γ s g (ys.map some)with
   |some a=>DO a.o λz=>K (a.y z)
   |none=>none
  |none=>match cloI E.Θ s op with
  |some (g,ys)=>match JH E.Γ s g (ys.map some)with
   |some a=>DO a.o λz=>K (a.y z)
   |none=>none
  |none=>match tq E.Θ s ty op with
   |some (.ok y)=>K y
   |some (.cnd p dec y)=>oif p dec (K y)
   |none=>none)else none
structure EOK(P:Program)(E:Env):Prop where
 Θ:E.Θ.OK P
 Γ:Id P E.Γ
 W:∀e∈E.W,e.OK P
 N:∀e∈E.N,e.OK P
 U:∀e∈E.U,e.OK P
 M:∀e∈E.M,e.OK P
theorem Im(hE:EOK P E){ty:TypeId}{K:Sl->Option R}{z:R}(h:AbB E s ty op K=some z):(∀x∈op.operands,s.den.ev x≠.dead)/\∃y,QS P s op y/\K y=some z:=by
 unfold AbB at h;obtain⟨hl,h⟩:=A1 h;refine⟨λx hx=>XU (aET.1 hl x (by simpa using hx)),?_⟩
 split at h
 .rename_i f xs F
  split at h
  case h_2=>
   split at h
   case h_2=>cases h
   rename_i a H;cases B:a.o with
   |none=>rw[B]at h;cases h
   |some u=>
    rw[B]at h;obtain⟨b,u⟩:=u;refine⟨a.y b u,?_,by cases b<;>exact h⟩
    unfold IP at F;split at F
    case h_2=>cases F
    rename_i c;obtain⟨callee,args,ats⟩:=c;split at F
    case h_2=>cases F
    rename_i Z U;have U:callee=.value (.func Z):=U;subst U;cases F;exact NX hE.N H B
  rename_i a H;cases B:a.o with
  |none=>rw[B]at h;cases h
  |some u=>
   rw[B]at h;refine⟨a.y u,?_,h⟩;unfold IP at F;split at F
   case h_2=>cases F
   rename_i c;obtain⟨callee,args,ats⟩:=c;split at F
   case h_2=>cases F
   rename_i Z U;have U:callee=.value (.func Z):=U;subst U;cases F;exact PF hE.Γ H B
 .split at h
  .rename_i g ys Y
   split at h
   case h_2=>cases h
   rename_i a H;cases B:a.o with
   |none=>rw[B]at h;cases h
   |some u=>
    rw[B]at h;exact⟨a.y u,V1 hE.Γ Y H B,h⟩
  split at h
  .rename_i g ys Y
   split at h
   case h_2=>cases h
   rename_i a H;cases B:a.o with
   |none=>rw[B]at h;cases h
   |some u=>
    rw[B]at h;exact⟨a.y u,VZ hE.Θ hE.Γ Y H B,h⟩
  split at h
  .rename_i y H
   exact⟨y,QA hE.Θ H trivial,h⟩
  .rename_i p dec y H
   have h: @ite _ p dec (K y) none=some z:=h;by_cases W:p
   .rw[if_pos W]at h
    exact⟨y,QA hE.Θ H W,h⟩
   .rw[if_neg W]at h;cases h
  .cases h
def St.putH(h:BW)(s:St)(d:Option Nat)(y:Sl):Option St:=match d with
 |none=>none
 |some d=>bif blt d h.n then(bif h.fz.contains d then(match y.frz with
   |some B=>some ⟨AC s.t d B,s.r⟩
   |none=>none)else some ⟨AC s.t d y,s.r⟩)else none
def St.putX(hd:Bool)(h:BW)(s:St)(d:Option Nat)(y:Sl):Option St:=bif hd then s.putH h d y else s.put h d y
inductive Seg where
 |one (o:Oper)
 |grp (g:List Oper) (pk:Oper)
def Seg.ops:Seg->List Oper
 |.one o=>[o]
 |.grp g pk=>g++[pk]
def U1:List Oper->List Oper×List Oper
 |[]=>([],[])
 |o::l=>bif o.guard.isSome then(o::(U1 l).1,(U1 l).2)else([],o::l)
def YV:Nat->List Oper->List Seg
 |0,l=>l.map .one
 |_+1,[]=>[]
 |n+1,o::l=>match o.guard with
  |none=>.one o::YV n l
  |some _=>match U1 l with
   |(g,pk::rest)=>.grp (o::g) pk::YV n rest
   |(_,[])=>(o::l).map .one
def NQ:∀l,(U1 l).1++(U1 l).2=l
 |[]=>rfl
 |o::l=>by
  unfold U1;cases B:o.guard.isSome with
  |true=>simp[NQ l]
  |false=>rfl
def MY:∀l:List Oper,(l.map Seg.one).flatMap Seg.ops=l
 |[]=>rfl
 |o::l=>by rw[List.map_cons,flatMap_cons,MY l];rfl
def Ch:∀(n:Nat) (l:List Oper),(YV n l).flatMap Seg.ops=l
 |0,l=>MY l
 |n+1,[]=>rfl
 |n+1,o::l=>by
  unfold YV;split
  .rw[flatMap_cons,Ch n l];rfl
  .split
   .rename_i g pk rest B
    rw[flatMap_cons,Ch n rest];have:=NQ l;rw[B]at this;rw[<-this];simp[Seg.ops]
   .exact MY _
def valB(s:St)(x:Operand):Option Bool:=match s.ev x with
 |some (.one (.c .bool _ b))=>some b
 |_=>none
theorem valB_v{b:Bool}(h:valB s x=some b):s.den.ev x=.c (.bool b):=by
 unfold valB at h;split at h
 .rename_i d F B
  cases h;rw[Bg B];rfl
 grind
def C8:List Oper->(Nat->Sl)->Nat->Sl
 |[],t=>t
 |o::l,t=>match o.dst with
  |some d=>C8 l (AC t d (.one .dead))
  |none=>C8 l t
def Ao(g:List Oper)(d:Nat):Bool:=g.all λo=>match o.dst with
 |some e=>!beq e d
 |none=>true
abbrev Asm:=List (Nat×Nat×Bool)
def ZN:Asm->Nat->Option Bool
 |[],_=>none
 |(i,_,v)::ρ,j=>bif beq i j then some v else ZN ρ j
def ZM:Asm->Nat->Option Bool
 |[],_=>none
 |(_,d,v)::ρ,c=>bif beq d c then some v else ZM ρ c
def isUd:Sl->Bool
 |.tup []=>true
 |_=>false
def VD(s:St)(x:Operand):Bool:=match s.ev x with
 |some y=>!y.own
 |none=>false
def Oy(ρ:Asm)(s:St):Op->Option Bool
 |.pick (.tmp c) x y=>bif VD s x&&VD s y then(match ZM ρ c with
  |some v=>valB s (bif v then x else y)
  |none=>none)else none
 |_=>none
def setB(h:BW)(s:St)(d:Option Nat)(v:Bool):Option St:=match d with
 |some d=>bif blt d h.n&& !h.fz.contains d then some ⟨AC s.t d (.one (.c .bool 0 v)),s.r⟩else none
 |none=>none
def HN(h:BW)(s:St)(d:Option Nat):Option St:=match d with
 |some d=>bif blt d h.n then some ⟨AC s.t d (.tup []),s.r⟩else none
 |none=>some s
def fzD(h:BW):Option Nat->Bool
 |some d=>h.fz.contains d
 |none=>false
def MA(E:Env)(hd:Bool)(ρ:Asm)(s:St)(o:Oper)(K:St->Option Bool):Option Bool:=match Oy ρ s o.op with
 |some v=>match setB E.h s o.dst v with
  |some s'=>K s'
  |none=>none
 |none=>AbB E s o.type o.op λy=>match(bif y.own&& !fzD E.h o.dst then none else s.putX hd E.h o.dst y)with
  |some s'=>K s'
  |none=>none
def onS(o:Option St)(K:St->Option Bool):Option Bool:=match o with
 |some s=>K s
 |none=>none
def Cy(E:Env)(hd:Bool)(ops:Array Oper):List Oper->Asm->St->(Asm->St->Option Bool)->Option Bool
 |[],ρ,s,K=>K ρ s
 |o::l,ρ,s,K=>match o.guard with
  |none=>none
  |some (j,want)=>match(ops[j]?).bind (·.dst)with
   |none=>none
   |some B=>bif isUd (s.t B)then onS (HN E.h s o.dst) (λs'=>Cy E hd ops l ρ s' K)else match ZN ρ j with
    |some v=>bif v==want then MA E hd ρ s o (λs'=>Cy E hd ops l ρ s' K)else onS (HN E.h s o.dst) (λs'=>Cy E hd ops l ρ s' K)
    |none=>match s.t B with
     |.one (.c .bool _ b)=>bif Ao (o::l) B then
      V5 b (bif want then MA E hd ((j,B,true)::ρ) s o (λs'=>Cy E hd ops l ((j,B,true)::ρ) s' K)else onS (HN E.h s o.dst) (λs'=>Cy E hd ops l ((j,B,true)::ρ) s' K))
       (bif want then onS (HN E.h s o.dst) (λs'=>Cy E hd ops l ((j,B,false)::ρ) s' K)else MA E hd ((j,B,false)::ρ) s o (λs'=>Cy E hd ops l ((j,B,false)::ρ) s' K))else none
     |_=>none
def grpB(E:Env)(hd:Bool)(ops:Array Oper)(s:St)(g:List Oper)(pk:Oper):Option Bool:=
 Cy E hd ops g [] s λρ s'=>bif beq s'.r.length s.r.length then Oy ρ s' pk.op else none
def ZF(h:BW)(pk:Oper):Option Nat:=match pk.dst,pk.guard with
 |some d,none=>bif blt d h.n&& !h.fz.contains d then some d else none
 |_,_=>none
def partS:Bool×List Cl->Option Sl
 |(true,m)=>some (.agg m)
 |(false,y::_)=>some (.one y)
 |(false,[])=>none
def hdS:Sl->Sl
 |.one (.c (.sl _) (_+1) xs)=>.one (.c (.sl .unit) 0 (AaP (IE xs) ()))
 |.one (.c (.osl _) (_+1) x)=>match x with
  |some xs=>.one (.c (.sl .unit) 0 (AaP (IE xs) ()))
  |none=>.one .dead
 |_=>.one .dead
theorem hdS_v(r:List Aa)(y:Sl):hdV (y.v r)=(hdS y).v r:=by
 cases y with
 |one c=>
  cases c with
  |c t d x=>
   cases t with
   |sl t=>
    cases d with
    |zero=>rfl
    |succ d=>
     show V.nd true false 0 x.length (λ_ _=>.dead)=V.nd true false 0 (List.replicate x.length ()).length λi k=>([].getD k .dead)
     simp
   |ptr t=>rfl
   |osl t=>
    cases d with
    |zero=>cases x<;>rfl
    |succ d=>
     cases x with
     |none=>rfl
     |some x=>
      show V.nd true false 0 x.length (λ_ _=>.dead)=V.nd true false 0 (List.replicate x.length ()).length λi k=>([].getD k .dead)
      simp
   |_=>rfl
  |_=>rfl
 |_=>rfl
def dX(E:Env)(y:Nat):Bool:=E.h.fz.contains (y+1000000)
def J9(o:Oper)(y:Nat):Bool:=match o.op with
 |.assign (.tmp z)=>beq z y
 |.move (.tmp z)=>beq z y
 |_=>false
def stB(o:Oper)(y:Nat):Bool:=match o.op with
 |.store _ (.tmp z) _=>beq z y
 |_=>false
def alS(h:BW)(ops:Array Oper)(o:Oper)(z:Nat):Option Nat:=o.after.toList.findSome? λe=>bif Region.binds .any e then(match ops[e.on]? with
 |some c=>bif alM h ops c then(match c.op,c.dst with
  |.move (.tmp y),some z'=>bif beq z' z then some y else none
  |_,_=>none)else none
 |none=>none)else none
theorem alS_v{h:BW}{ops:Array Oper}{z y:Nat}(Z:alS h ops o z=some y):AlP h ops o z y:=by
 obtain⟨e,he,B⟩:=List.exists_of_findSome?_eq_some Z;cases U:Region.binds .any e with
 |false=>grind
 |true=>
  rw[U]at B;split at B
  case h_2=>grind
  rename_i c hc;cases F:alM h ops c with
  |false=>grind
  |true=>
   rw[F]at B;split at B
   case h_2=>cases B
   rename_i y' W H hd;cases Y:beq W z with
   |false=>grind
   |true=>
    rw[Y]at B;cases B;exact⟨e,by grind,U,c,hc,F,H,by simp_all⟩
def W3(h:BW)(ops:Array Oper)(o:Oper)(z:Nat):Nat:=match alS h ops o z with
 |some y=>y
 |none=>z
def okU(h:BW)(B:Nat->Bool)(ops:Array Oper)(o:Oper)(z:Nat):Bool:=match alS h ops o z with
 |some y=>U2 h ops o (y,.put .dead)
 |none=>mvB ops o z||(B z&&(mvR ops o z||mvC ops o z))
def ucB(E:Env)(ops:Array Oper)(o:Oper)(y:Nat):Bool:=match IP o.op with
 |some (f,xs)=>match Kc E.U f with
  |some e=>match xs.toList[e.S.k]? with
   |some (.tmp z)=>match alS E.h ops o z with
    |some B=>beq B y
    |none=>dX E z&&beq z y
   |_=>false
  |none=>false
 |none=>false
def yB(E:Env)(ops:Array Oper)(y:Nat):Bool:=ops.toList.any λo=>(dX E y&&(J9 o y||stB o y))||ucB E ops o y
def mvF(E:Env)(ops:Array Oper)(s:St)(o:Oper):Option (Nat×Sl×Nat×Sl):=match o.op,o.dst with
 |.assign (.tmp y),some d=>bif(s.t y).own&&blt d E.h.n&& !E.h.fz.contains d&&(mvB ops o y||(dX E y&&mvR ops o y))then some (y,hdS (s.t y),d,s.t y)else none
 |.move (.tmp y),some d=>bif(s.t y).own&&blt d E.h.n&& !E.h.fz.contains d&&(mvB ops o y||(dX E y&&mvR ops o y))then some (y,hdS (s.t y),d,s.t y)else none
 |.extract (.tmp y) c,some d=>match s.t y with
  |.tup l=>match l[c]? with
   |some q=>match partS q with
    |some z=>bif z.own&&blt d E.h.n&& !E.h.fz.contains d&&exB ops o y c then some (y,.tup (l.set c (false,[])),d,z)else none
    |none=>none
   |none=>none
  |_=>none
 |_,_=>none
def notT(p:Nat):Operand->Bool
 |.tmp y=>!beq y p
 |_=>true
def newC:Sl->Option (List Cl)
 |.new lp=>some lp
 |.one (.c (.ptr u) (d+1) z)=>some (Ar u d z)
 |_=>none
theorem newC_v{lp:List Cl}(h:newC y=some lp)(r:List Aa):y.v r=A3 true (lp.map Cl.v0):=by
 unfold newC at h;split at h
 .cases h;rfl
 .rename_i u d z
  cases h;show A3 (decide (0<d+1)) (tyV u (d+1-1) z)=_;rw[Br,dT (Nat.succ_pos _)];rfl
 .cases h
def lqF(E:Env)(ops:Array Oper)(s:St)(o:Oper):Option (List Nat×Option (Nat×Sl)×Option (Nat×Sl)):=match o.op,o.dst with
 |.build t ps,some d=>bif CZ ((ps.toList.map (·.2)).map (LC s))&&(match jsO ((ps.toList.map (·.2)).map (LC s))with
   |[]=>false
   |a::l=>(a::l).all (mvB ops o))&&blt d E.h.n then(match E.Θ.look t with
    |some i=>bif i.agg then(match NU (λk=>i.places[k]?) (Ii i.ty) (ps.toList.map λp=>(p.1,s.ev p.2))with
     |some l=>some (jsO ((ps.toList.map (·.2)).map (LC s)),none,some (d,.agg (bif E.h.fz.contains (2000000+d)then VB (Ar i.ty 0 i.ty.dflt) l else l)))
     |none=>none)else none
    |none=>none)else none
 |.buildSlice t n ps,some d=>bif CZ ((ps.toList.map (·.2)).map (LC s))&&(match jsO ((ps.toList.map (·.2)).map (LC s))with
   |[]=>false
   |a::l=>(a::l).all (mvB ops o))&&blt d E.h.n then(match((E.Θ.look t).bind (·.elem)).bind E.Θ.look with
    |some j=>bif blt 0 j.ty.w&&Nat.ble (n*j.ty.w) 16777216 then(match NU (λi=>some (i*j.ty.w,j.ty.w)) (Ab6 n (Ii j.ty)) (ps.toList.map λp=>(p.1,s.ev p.2))with
     |some l=>bif l.all Cl.keep then(match OB j.ty j.sd n (l.map (fit j.sd))with
      |some xs=>some (jsO ((ps.toList.map (·.2)).map (LC s)),none,some (d,.one (.c (.sl j.ty) (j.sd+1) xs)))
      |none=>none)else none
     |none=>none)else none
    |none=>none)else none
 |.store t (.tmp p) x,none=>match newC (s.t p),(s.ev x).bind Sl.cellsO,E.Θ.look t with
  |some lp,some l,some i=>bif(mvB ops o p||(dX E p&&mvR ops o p))&&blt p E.h.n&&beq lp.length i.ty.w&&beq l.length i.ty.w&&l.all Cl.keep&&(jsO ([x].map (LC s))).all (mvB ops o)&&notT p x then some (jsO ([x].map (LC s)),some (p,.new (VB lp l)),none)else none
  |_,_,_=>none
 |_,_=>none
def YE:Op->Option (TypeId×Operand×Operand)
 |.call c=>match c.callee,c.args.toList,c.argTypes.toList with
  |.builtin .append,[x,y],[t,t']=>bif beq t t' then some (t,x,y)else none
  |_,_,_=>none
 |_=>none
theorem list2{α:Type}{xs:Array α}{x y:α}(h:xs.toList=[x,y]):xs= #[x,y]:=by grind
theorem Ac8{t:TypeId}{y:Operand}(h:YE op=some (t,x,y)):op=.call ⟨.builtin .append,#[x,y],#[t,t]⟩:=by
 unfold YE at h;split at h
 case h_2=>grind
 rename_i c;obtain⟨callee,args,ats⟩:=c;simp at h;split at h
 case h_2=>grind
 rename_i W U t1 t2 H B;cases F:beq t1 t2 with
 |false=>grind
 |true=>
  rw[F]at h;cases h;have:=bqE F;subst this;rw[list2 H,list2 B]
def Wl(t:Ty)(B:Nat):Option Sl->Option (Nat×List t.T)
 |some (.one (.c (.sl t') (d+1) xs))=>if h:t'=t then some (d,h▸xs)else none
 |some (.one .nil)=>some (B,[])
 |_=>none
def Wk(s:St)(t:Ty):Option Sl->Option (Nat×List t.T)
 |some (.one (.c (.sl t') (d+1) ys))=>if h:t'=t then(bif t.noO then some (d,h▸ys)else none)else none
 |y=>match V7 s t s.r.length y with
  |some (d,ys,[])=>some (d,ys)
  |_=>none
structure AO where
 p:Prop
 dec:Decidable p
 js:List Nat
 d:Nat
 y:Sl
def le1(v v':V):Prop:=v=v'\/(v'=.dead/\AJ v=false)
def Z8(y:Sl):Sl:=match y.frz with
 |some z=>z
 |none=>.one .dead
theorem AcM(y:Sl)(r:List Aa):le1 (Go.Ve.frz (y.v r)) ((Z8 y).v r):=by
 have F:∀v,AJ (Go.Ve.frz v)=false:=by
  intro v
  induction v with
  |many t n f U=>show((range n).any λk=>AJ (Go.Ve.frz (f k)))=false;grind
  |nd=>rfl
  |_=>rfl
 unfold Z8;cases B:y.frz with
 |none=>exact .inr ⟨rfl,F _⟩
 |some H=>exact .inl (Sl.frz_v B)
def appO(E:Env)(ops:Array Oper)(s:St)(o:Oper):Option AO:=match YE o.op,o.dst with
 |some (t,x,y),some d=>(match((E.Θ.look t).bind (·.elem)).bind E.Θ.look with
  |some i=>bif CZ ([x,y].map (LC s))&&(match jsO ([x,y].map (LC s))with
    |[]=>false
    |a::l=>(a::l).all (mvB ops o))&&blt d E.h.n&&blt 0 i.bytes&&blt 0 i.ty.w then(match Wk s i.ty (s.ev y)with
   |some (d',ys)=>match Wl i.ty d' (s.ev x)with
    |some (dx,xs)=>bif dOK i.ty d' dx then some ⟨IE xs+IE ys<=ON i.bytes,inferInstance,jsO ([x,y].map (LC s)),d,(bif E.h.fz.contains d then Z8 (.one (.c (.sl i.ty) (dx+1) (Ac6 xs ys)))else .one (.c (.sl i.ty) (dx+1) (Ac6 xs ys)))⟩else none
    |none=>none
   |none=>none)else none
  |none=>none)
 |_,_=>none
structure UV where
 α:Type
 o:Option α
 y:Nat
 d:Nat
 u:α->Sl
 z:α->Sl
variable{A:UV}
def Mo(h:BW)(B:Nat->Bool)(sl:Nat->Nat)(Us:List EnU)(s:St)(o:Oper):Option UV:=match IP o.op,o.dst with
 |some (f,xs),some d=>match Kc Us f with
  |some e=>match xs.toList[e.S.k]? with
   |some (.tmp z)=>match s.t (sl z)with
    |.one (.c t dd x)=>if ht:t=e.S.t then
      bif beq dd e.S.d&&blt d h.n&&blt (sl z) h.n&& !beq (sl z) d&&B z&&HH e.S.rs&&((CJ e.S.k xs.toList).map s.ev).all uok&&(CJ e.S.k xs.toList).all s.liveX then
       (match JI s e.S.ps ((CJ e.S.k xs.toList).map s.ev)with
       |some F=>some ⟨(RT e.S.rs).T×e.S.t.T,V5 (bif e.S.eat then true else AcG e.S.t (ht▸x)) (e.g F (ht▸x)) none,sl z,d,λu=>bif e.S.eat then .one .dead else .one (.c e.S.t e.S.d u.2),λu=>bif h.fz.contains d then Z8 (Lo true e.S.rs u.1)else Lo true e.S.rs u.1⟩
       |none=>none)else none
     else none
    |_=>none
   |_=>none
  |none=>none
 |_,_=>none
def AaJ(h:BW)(B:Nat->Bool)(Us:List EnU)(ops:Array Oper)(s:St)(o:Oper):Option UV:=Mo h (okU h B ops o) (W3 h ops o) Us s o
def AaM:Option (Nat×Sl)->(Nat->Sl)->Nat->Sl
 |some (d,y),t=>AC t d y
 |none,t=>t
def Wd{R:Type}(E:Env)(hd:Bool)(ops:Array Oper):List Seg->St->(St->Option R)->Option R
 |[],s,K=>K s
 |.one o::l,s,K=>match o.guard with
  |none=>bif hd&&alM E.h ops o then(match o.dst with
   |some d=>bif blt d E.h.n then Wd E hd ops l ⟨AC s.t d (.one .dead),s.r⟩ K else none
   |none=>none)else match mvF E ops s o with
   |some (y,u,d,z)=>Wd E hd ops l ⟨AC (AC s.t y u) d z,s.r⟩ K
   |none=>match(bif hd then lqF E ops s o else none)with
    |some (js,pu,ds)=>Wd E hd ops l ⟨AaM ds (AaM pu (CK js s.t)),s.r⟩ K
    |none=>match(bif hd then appO E ops s o else none)with
     |some A=>oif A.p A.dec (Wd E hd ops l ⟨AC (CK A.js s.t) A.d A.y,s.r⟩ K)
     |none=>match(bif hd then AaJ E.h (dX E) E.U ops s o else none)with
      |some A=>DO A.o λu=>Wd E hd ops l ⟨AC (AC s.t A.y (A.u u)) A.d (A.z u),s.r⟩ K
      |none=>AbB E s o.type o.op λy=>match s.putX hd E.h o.dst y with
       |some s'=>Wd E hd ops l s' K
       |none=>none
  |some _=>none
 |.grp g pk::l,s,K=>match ZF E.h pk with
  |some d=>DO (grpB E hd ops s g pk) λv=>Wd E hd ops l ⟨AC (C8 g s.t) d (.one (.c .bool 0 v)),s.r⟩ K
  |none=>none
theorem BB{a b:Nat}(h:a≠b):beq a b=false:=by
 cases B:beq a b with
 |false=>rfl
 |true=>simp_all
theorem DU:∀(g:List Oper) (t:Nat->Sl) (i:Nat),C8 g t i=if Ao g i then t i else .one .dead
 |[],t,i=>rfl
 |o::g,t,i=>by
  have F:Ao (o::g) i=((match o.dst with
   |some e=>!beq e i
   |none=>true)&&Ao g i):=rfl
  rw[F];unfold C8;cases hd:o.dst with
  |none=>
   exact DU g t i
  |some d=>
   simp;rw[DU g];by_cases B:d=i
   .subst B
    simp[AC]
   .have U:=BB B
    have H:=BB (Ne.symm B);simp[AC,U,H]
def VLe(t t':Nat->V):Prop:=∀i,le1 (t i) (t' i)
def VLe.refl(t:Nat->V):VLe t t:=λ_=>.inl rfl
theorem VLe.upd(h:VLe t t')(hv:le1 v v'):VLe (AD t d v) (AD t' d v'):=by
 intro i;unfold AD;split
 .grind
 .exact h i
theorem VLe.ev{t t':Nat->V}{σ:List V}(h:VLe t t')(x:Operand):le1 (Ms.ev ⟨t,σ⟩ x) (Ms.ev ⟨t',σ⟩ x):=by
 cases x with
 |tmp i=>exact h i
 |_=>exact .inl rfl
def qop_le{σ:List V}(h:VLe t t')(H:∀x∈op.operands,Ms.ev ⟨t',σ⟩ x≠.dead)(F:Oe P σ (Ms.ev ⟨t',σ⟩) op K):Oe P σ (Ms.ev ⟨t,σ⟩) op K:=
 Lq (λx B=>((h.ev x).resolve_right λe=>H x B e.1).symm) F
section head
variable {P:Program}{E:Env}
theorem putH_v{d:Option Nat}{K:(Nat->V)->Prop}(B:s.putH E.h d y=some s')(W:VLe t s.den.t)(hK:∀t',VLe t' s'.den.t->(∀i,d≠some i->t' i=t i)->(∀e,d=some e->(y.own&& !fzD E.h d)=false->AJ (t' e)=false)->K t'):QK E.h d t K (y.v s.r):=by
 unfold St.putH at B;split at B
 .cases B
 .rename_i d
  obtain⟨hb,B⟩:=A1 B
  have U:∀v:V,AJ (frz v)=false:=by
   intro v
   induction v with
   |many t n f ih=>show((range n).any λk=>AJ (frz (f k)))=false;rw[List.any_eq_false];intro k _;rw[ih k];simp
   |nd=>rfl
   |_=>rfl
  refine⟨blE hb,hK _ ?_ (λi hi=>if_neg λe=>hi (by rw[e])) λe he H=>?_⟩
  rotate_left
  .cases he
   unfold AD;rw[if_pos rfl];split
   .exact U _
   .rename_i F
    rw[Sl.own_v];have F:E.h.fz.contains d=false:=by simpa using F
    have H:(y.own&& !E.h.fz.contains d)=false:=H;rw[F]at H;simpa using H
  cases Y:E.h.fz.contains d with
  |true=>
   rw[Y]at B;simp only[cond_true]at B;split at B
   .rename_i Z hy
    cases B;simp only[if_true];rw[Sl.frz_v hy];show VLe _ (λi=>(AC s.t d Z i).v s.r)
    rw[BL];exact W.upd (.inl rfl)
   .cases B
  |false=>
   rw[Y]at B;simp only[cond_false,Option.some.injEq]at B;subst B;show VLe _ (λi=>(AC s.t d y i).v s.r)
   rw[BL];exact W.upd (.inl rfl)
theorem putH_r{d:Option Nat}(B:s.putH E.h d y=some s'):s'.r=s.r/\∃e,d=some e/\∀i,i≠e->s'.t i=s.t i:=by
 unfold St.putH at B;split at B
 .cases B
 .rename_i d
  have key:∀F,∀i,i≠d->AC s.t d F i=s.t i:=λF i hi=>by
   unfold AC;cases W:beq i d with
   |false=>rfl
   |true=>simp_all
  cases U:blt d E.h.n with
  |false=>grind
  |true=>
   rw[U]at B;simp only[cond_true]at B;cases H:E.h.fz.contains d with
   |true=>
    rw[H]at B;split at B
    .cases B;grind
    grind
   |false=>
    rw[H]at B;simp[cond_false,Option.some.injEq]at B;subst B
    grind
theorem AX(h:Ao (o::g) d=true):o.dst≠some d/\Ao g d=true:=by
 have B:Ao (o::g) d=((match o.dst with
  |some e=>!beq e d
  |none=>true)&&Ao g d):=rfl
 rw[B,bAE]at h;refine⟨λhd=>?_,h.2⟩
 simp_all
theorem Yh{l:List V}{c:Nat}:(l.set c .dead).getD k .dead=if k=c then .dead else l.getD k .dead:=by grind
theorem mvF_v{ops:Array Oper}{y:Nat}{u z:Sl}(ht:VLe t s.den.t)(h:mvF E ops s o=some (y,u,d,z)):
  o.dst=some d/\d<E.h.n/\E.h.fz.contains d=false/\∃ys,(∀p∈ys,JF ops o p=true)/\mq t o ys (z.v s.r)/\VLe (AD (AL ys t) d (z.v s.r)) (St.den ⟨AC (AC s.t y u) d z,s.r⟩).t/\
   ((∃e∈o.after,Region.binds .any e=true/\AG ops e.on=some y)\/(dX E y=true/\J9 o y=true)):=by
 have own:∀y,(s.t y).own=true->t y=s.den.t y:=by
  intro y hy;rcases ht y with e|e
  .exact e
  .have h5:AJ (s.den.t y)=(s.t y).own:=Sl.own_v (s.t y)
   rw[e.1,hy]at h5;cases h5
 have Z:∀ys (V0:V),(∀x,AL ys t x=if x=y then V0 else t x)->le1 V0 (u.v s.r)->VLe (AD (AL ys t) d (z.v s.r)) (St.den ⟨AC (AC s.t y u) d z,s.r⟩).t:=by
  intro ys V0 hk hu;show VLe _ (λi=>(AC (AC s.t y u) d z i).v s.r)
  rw[BL];refine VLe.upd ?_ (.inl rfl);rw[BL];intro i;rw[hk];unfold AD;split
  .exact hu
  .exact ht i
 have kM:∀(y:Nat) (tk:Tk) x,AL [(y,tk)] t x=if x=y then kapp tk (t y)else t x:=by
  intro y tk x;unfold AL;by_cases hx:x=y
  .subst hx
   rw[if_pos rfl];show Ig (if x=x then some tk else none) _=_
   rw[if_pos rfl];rfl
  .rw[if_neg hx]
   show Ig (if y=x then some tk else none) _=_
   rw[if_neg (Ne.symm hx)];rfl
 have edge:∀y,mvB ops o y=true->∃e∈o.after,Region.binds .any e=true/\AG ops e.on=some y:=by
  intro y hy;unfold mvB at hy;rw[bAE]at hy;exact Hq hy.2
 have U:∀(B Y:Nat),(o.op=.assign (.tmp B)\/o.op=.move (.tmp B))->o.dst=some Y->(bif(s.t B).own&&blt Y E.h.n&& !E.h.fz.contains Y&&(mvB ops o B||(dX E B&&mvR ops o B))then some (B,hdS (s.t B),Y,s.t B)else none)=some (y,u,d,z)->
   o.dst=some d/\d<E.h.n/\E.h.fz.contains d=false/\∃ys,(∀p∈ys,JF ops o p=true)/\mq t o ys (z.v s.r)/\VLe (AD (AL ys t) d (z.v s.r)) (St.den ⟨AC (AC s.t y u) d z,s.r⟩).t/\
   ((∃e∈o.after,Region.binds .any e=true/\AG ops e.on=some y)\/(dX E y=true/\J9 o y=true)):=by
  intro B Y F H h;obtain⟨hb,h⟩:=A1 h;simp only[cond_true,Option.some.injEq,Prod.mk.injEq]at h;obtain⟨rfl,rfl,rfl,rfl⟩:=h;simp only[bAE,not_eq_true']at hb;obtain⟨⟨⟨h1,h2⟩,h3⟩,h4⟩:=hb
  exact⟨H,blE h2,h3,[(B,.put (hdV ((s.t B).v s.r)))],λp hp=>by
   rw[mem_singleton.1 hp];show(mvB ops o B||mvR ops o B||mvC ops o B)=true;refine or_eq_true _ _▸ .inl (show(mvB ops o B||mvR ops o B)=true from ?_)
   rw[or_eq_true]at h4⊢;exact h4.imp id λh=>by rw[bAE]at h;exact h.2,.inl ⟨B,F,rfl,(own B h1).symm⟩,Z _ (hdV ((s.t B).v s.r)) (λx=>kM B (.put (hdV ((s.t B).v s.r))) x) (.inl (hdS_v s.r (s.t B))),(by
   rw[or_eq_true]at h4;rcases h4 with h4|h4
   .exact .inl (edge B h4)
   .rw[bAE]at h4
    refine .inr ⟨h4.1,?_⟩;unfold J9;rcases F with F|F<;>(rw[F];exact beq_refl _))⟩
 unfold mvF at h;split at h
 .rename_i B Y F H
  exact U B Y (.inl F) H h
 .rename_i B Y F H
  exact U B Y (.inr F) H h
 .rename_i B c Y F H
  split at h
  case h_2=>cases h
  rename_i l hl;split at h
  case h_2=>cases h
  rename_i q hq;split at h
  case h_2=>cases h
  rename_i z' hz;obtain⟨hb,h⟩:=A1 h;simp only[cond_true,Option.some.injEq,Prod.mk.injEq]at h;obtain⟨rfl,rfl,rfl,rfl⟩:=h;simp only[bAE,not_eq_true']at hb;obtain⟨⟨⟨h1,h2⟩,h3⟩,h4⟩:=hb;obtain⟨hc,hq'⟩:=List.getElem?_eq_some_iff.1 hq
  -- the part's value
  have hzv:z'.v s.r=(if q.1 then Ah (q.2.map (Cl.v s.r))else(q.2.map (Cl.v s.r)).getD 0 .dead):=by
   obtain⟨b,m⟩:=q;cases b with
   |true=>cases hz;rfl
   |false=>cases m with
    |nil=>cases hz
    |cons a m=>cases hz;rfl
  obtain⟨L,hL⟩:∃L:List V,L=l.map λp=>if p.1 then Ah (p.2.map (Cl.v s.r))else(p.2.map (Cl.v s.r)).getD 0 .dead:=⟨_,rfl⟩
  have hLc:L.getD c .dead=z'.v s.r:=by
   rw[hL,hzv];simp[List.getElem?_map,hq]
  have hcL:c<L.length:=by rw[hL];simpa using hc
  have W:s.den.t B=Dj L:=by
   show(s.t B).v s.r=_;rw[hl,hL];rfl
  have hown:(s.t B).own=true:=by
   have h5:AJ (s.den.t B)=(s.t B).own:=Sl.own_v (s.t B);rw[<-h5,W];have h6:AJ (z'.v s.r)=true:=by rw[Sl.own_v];exact h1
   show AJ (V.many .tu L.length λk=>L.getD k .dead)=true
   simp only[AJ];rw[any_eq_true];exact⟨c,List.mem_range.2 hcL,by rw[hLc];exact h6⟩
  have hty:=own B hown;refine⟨H,blE h2,h3,[(B,.part c)],λp hp=>by rw[mem_singleton.1 hp];exact h4,.inr ⟨B,c,L.length,λk=>L.getD k .dead,F,rfl,hty.trans W,hcL,hLc.symm⟩,Z _ _ (λx=>kM B (.part c) x) (.inl ?_),?_⟩
  .rw[hty,W]
   show OS c (V.many .tu L.length λk=>L.getD k .dead)=Dj ((l.set c (false,[])).map λp=>if p.1 then Ah (p.2.map (Cl.v s.r))else(p.2.map (Cl.v s.r)).getD 0 .dead)
   rw[List.map_set,<-hL];show V.many _ _ _=V.many _ (L.set c V.dead).length _;rw[List.length_set]
   congr 1
   funext k
   exact Yh.symm
  .unfold exB at h4
   rw[bAE]at h4;exact .inl (Hq h4.2)
 .cases h
theorem UQ{f:FuncId}{xs:Array Operand}(h:IP op=some (f,xs)):∃ats,op=.call ⟨.value (.func f),xs,ats⟩:=by
 unfold IP at h;split at h
 case h_2=>grind
 rename_i c;obtain⟨callee,args,ats⟩:=c;split at h
 case h_2=>grind
 simp_all
theorem VW{l:List Operand}(B:k<l.length)(F:i≠k)(h:l[i]? =some x):x∈CJ k l:=by
 rcases Nat.lt_or_ge i k with hlt|hge
 .exact mem_of_getElem? (by rw[O1 hlt B];omega)
 .obtain⟨j,rfl⟩:∃j,i=j+1:=⟨i-1,by omega⟩
  exact mem_of_getElem? (i:=j) (by rw[O2 (by omega) B];grind)
theorem NR(hU:∀e∈Us,e.OK P){okf:Nat->Bool}{sl:Nat->Nat}{Al:Nat->Nat->Prop}(hal:∀z,sl z=z\/Al z (sl z))(ht:VLe t s.den.t)(h:Mo hh okf sl Us s o=some A){u:A.α}(hu:A.o=some u):
  ∃v r,VC o.op=true/\LQ P hh.n s.den.σ Al o t [(A.y,.put v)] r/\VLe (IU o.dst r (AL [(A.y,.put v)] t)) (St.den ⟨AC (AC s.t A.y (A.u u)) A.d (A.z u),s.r⟩).t/\o.dst=some A.d/\A.y≠A.d/\A.y<hh.n/\∃f xs e z,IP o.op=some (f,xs)/\Kc Us f=some e/\xs.toList[e.S.k]? =some (.tmp z)/\sl z=A.y/\okf z=true:=by
 unfold Mo at h;split at h
 case h_2=>cases h
 rename_i f xs d H hd;split at h
 case h_2=>cases h
 rename_i e he;split at h
 case h_2=>cases h
 rename_i zk hk;split at h
 case h_2=>cases h
 rename_i t0 dd x hy;obtain⟨y,U⟩:∃y,sl zk=y:=⟨_,rfl⟩;simp only[U]at h hy;split at h
 case isFalse=>cases h
 rename_i hte;subst hte;generalize hB:(beq dd e.S.d&&blt d hh.n&&blt y hh.n&& !beq y d&&okf zk&&HH e.S.rs&&((CJ e.S.k xs.toList).map s.ev).all uok&&(CJ e.S.k xs.toList).all s.liveX)=B at h;cases B with
 |false=>cases h
 |true=>
 simp only[bAE,not_eq_true']at hB;obtain⟨⟨⟨⟨⟨⟨⟨h1,h2⟩,h3⟩,h4⟩,h6⟩,h7⟩,h8⟩,h9⟩:=hB;simp only[cond_true]at h;split at h
 case h_2=>cases h
 rename_i z hz;cases h;obtain⟨⟨W,F,hft⟩,hfe⟩:=Uo hU he;have hop0:=H;obtain⟨ats,H⟩:=UQ H;have hdd:=bqE h1;have hyd:y≠d:=λe=>by rw[e,beq_refl]at h4;cases h4
 have hks:e.S.k<xs.toList.length:=(List.getElem?_eq_some_iff.1 hk).1;have hu:V5 (bif e.S.eat then true else AcG e.S.t x) (e.g z x) none=some u:=hu;obtain⟨hho,hu⟩:=A1 hu;have hu:e.g z x=some u:=hu;have Y:0<e.S.d:=by
  unfold Add.ok at F;simp only[bAE]at F;exact blE F.1.1
 have hnd:∃s sz n f,cV e.S.t e.S.d x=.nd s true sz n f:=by
  unfold Add.ok at F;simp only[bAE]at F;exact treeND Y F.2
 have hhold:LM (cV e.S.t e.S.d x)\/(bif e.S.eat then V.dead else cV e.S.t e.S.d u.2)=.dead:=by
  cases he:e.S.eat with
  |true=>exact .inr rfl
  |false=>
   rw[he]at hho;exact .inl (AcF Y hho)
 have hty:t y=cV e.S.t e.S.d x:=by
  have e1:s.den.t y=cV e.S.t e.S.d x:=by
   show(s.t y).v s.r=_;rw[hy,hdd];rfl
  rcases ht y with e2|⟨e2,_⟩
  .rw[e2,e1]
  .obtain⟨_,_,_,_,e3⟩:=hnd
   rw[e1,e3]at e2;cases e2
 obtain⟨k1,k2⟩:=Abz hks hz h8;have hc:=hft z x u hu;rw[hfe]at W hc;have hzy:zk=y\/Al zk y:=by
  rcases hal zk with h|h
  .exact .inl (h.symm.trans U)
  .rw[U]at h;exact .inr h
 have hlq:=Aay (Al:=Al) (P:=P) (N:=hh.n) (σ:=s.den.σ) (t:=t) H hd (blE h2) (blE h3) hyd W (by rw[<-getElem?_toList];exact hk) hzy (Sub.of_eq hty) hnd hhold (by simpa using k1) (λi x' hik hx=>by
  have hx:xs.toList[i]? =some x':=by rw[getElem?_toList];exact hx
  have hl:=aET.1 h9 x' (VW hks hik hx);have hev:Ms.ev ⟨t,s.den.σ⟩ x'=s.den.ev x':=(ht.ev (σ:=s.den.σ) x').resolve_right λe=>XU hl e.1
  rw[hev];exact k2 i x' hik hx) hc
 have e2:AL [(y,.put (bif e.S.eat then .dead else cV e.S.t e.S.d u.2))] t=AD t y (bif e.S.eat then .dead else cV e.S.t e.S.d u.2):=by
  funext i
  unfold AL AD;by_cases hi:i=y
  .subst hi
   rw[if_pos rfl];show Ig (if i=i then some (.put _)else none) _=_
   rw[if_pos rfl];rfl
  .rw[if_neg hi]
   show Ig (if y=i then some (.put _)else none) _=_
   rw[if_neg (Ne.symm hi)];rfl
 have e3:∀Z:Sl,(St.den ⟨AC (AC s.t y (bif e.S.eat then Sl.one .dead else .one (.c e.S.t e.S.d u.2))) d Z,s.r⟩).t=AD (AD s.den.t y (bif e.S.eat then .dead else cV e.S.t e.S.d u.2)) d (Z.v s.r):=by
  intro Z;show(λi=>(AC (AC s.t y _) d _ i).v s.r)=_
  rw[BL]
  congr 1
  show(λi=>(AC s.t y _ i).v s.r)=_
  rw[BL]
  congr 1
  cases e.S.eat<;>rfl
 have e4:(Lo true e.S.rs u.1).v s.r=Hj e.S.rs u.1:=by rw[Xe _ _ _ h7,Ir]
 have hfz:∀v:V,AJ (Go.Ve.frz v)=false:=by
  intro v
  induction v with
  |many t n f ih=>show((range n).any λk=>AJ (Go.Ve.frz (f k)))=false;rw[List.any_eq_false];intro k _;rw[ih k];simp
  |nd=>rfl
  |_=>rfl
 cases hf:hh.fz.contains d with
 |false=>
  refine⟨_,_,by rw[H];rfl,hlq,?_,hd,hyd,blE h3,f,xs,e,zk,hop0,he,hk,U,h6⟩
  show VLe _ (St.den ⟨AC (AC s.t y (bif e.S.eat then Sl.one .dead else .one (.c e.S.t e.S.d u.2))) d (bif false then Z8 (Lo true e.S.rs u.1)else Lo true e.S.rs u.1),s.r⟩).t;rw[e3,hd,e2];show VLe (AD _ d _) (AD _ d ((Lo true e.S.rs u.1).v s.r));rw[e4];exact VLe.upd (ht.upd (.inl rfl)) (.inl rfl)
 |true=>
  refine⟨_,_,by rw[H];rfl,hlq.frzR hd (blE h2),?_,hd,hyd,blE h3,f,xs,e,zk,hop0,he,hk,U,h6⟩
  show VLe _ (St.den ⟨AC (AC s.t y (bif e.S.eat then Sl.one .dead else .one (.c e.S.t e.S.d u.2))) d (bif true then Z8 (Lo true e.S.rs u.1)else Lo true e.S.rs u.1),s.r⟩).t;rw[e3,hd,e2];show VLe (AD _ d _) (AD _ d ((Z8 (Lo true e.S.rs u.1)).v s.r));refine VLe.upd (ht.upd (.inl rfl)) ?_;unfold Z8;cases hz2:(Lo true e.S.rs u.1).frz with
  |none=>exact .inr ⟨rfl,hfz _⟩
  |some z2=>
   left;show _=z2.v s.r;rw[<-e4];exact Sl.frz_v hz2
theorem Zc(hU:∀e∈Us,e.OK P){ops:Array Oper}(Y:VLe t s.den.t){U:Nat->Bool}(h:AaJ hh U Us ops s o=some A){u:A.α}(W:A.o=some u):
  ∃ys r,(∀p∈ys,JF ops o p=true\/U2 hh ops o p=true)/\VC o.op=true/\LQ P hh.n s.den.σ (AlP hh ops o) o t ys r/\VLe (IU o.dst r (AL ys t)) (St.den ⟨AC (AC s.t A.y (A.u u)) A.d (A.z u),s.r⟩).t/\o.dst=some A.d/\∃f xs e z,IP o.op=some (f,xs)/\Kc Us f=some e/\xs.toList[e.S.k]? =some (.tmp z)/\W3 hh ops o z=A.y/\okU hh U ops o z=true:=by
 obtain⟨v,r,h1,h2,h3,h4,_,_,f,xs,e,z,g1,g2,g3,B,F⟩:=NR hU (λz=>by
  unfold W3;cases H:alS hh ops o z with
  |none=>exact .inl rfl
  |some y=>exact .inr (alS_v H)) Y h W
 refine⟨_,r,λp Z=>?_,h1,h2,h3,h4,f,xs,e,z,g1,g2,g3,B,F⟩
 rw[mem_singleton.1 Z];unfold okU at F;unfold W3 at B;cases H:alS hh ops o z with
 |none=>
  rw[H]at B F;have B:z=A.y:=B;left;show(mvB ops o A.y||mvR ops o A.y||mvC ops o A.y)=true
  grind
 |some y=>
  rw[H]at B F;have B:y=A.y:=B;rw[B]at F;exact .inr F
theorem lqF_v(hE:EOK P E){ops:Array Oper}{pu ds:Option (Nat×Sl)}(ht:VLe t s.den.t)(h:lqF E ops s o=some (js,pu,ds))(hmo:o∈ops.toList):
  ∃ys r,(∀p∈ys,JF ops o p=true)/\VC o.op=true/\LQ P E.h.n s.den.σ (AlP E.h ops o) o t ys r/\VLe (IU o.dst r (AL ys t)) (St.den ⟨AaM ds (AaM pu (CK js s.t)),s.r⟩).t/\
   (∀i,Ao ops.toList i=true->yB E ops i=false->o.dst≠some i->AaM ds (AaM pu (CK js s.t)) i=s.t i):=by
 have own:∀y,AJ (t y)=(s.t y).own:=by
  intro y;have h5:AJ (s.den.t y)=(s.t y).own:=Sl.own_v (s.t y);rcases ht y with e|⟨e1,e2⟩
  .rw[e];exact h5
  .rw[e1]at h5;rw[e2,<-h5];rfl
 have hev:∀x,s.den.ev x≠.dead->Ms.ev ⟨t,s.den.σ⟩ x=s.den.ev x:=λx hx=>((ht.ev (σ:=s.den.σ) x).resolve_right λe=>hx e.1)
 have edge:∀y,mvB ops o y=true->∃e∈o.after,Region.binds .any e=true/\AG ops e.on=some y:=by
  intro y H;unfold mvB at H;rw[bAE]at H;exact Hq H.2
 have notW:∀y i,Ao ops.toList i=true->mvB ops o y=true->i≠y:=by
  rintro y i hn H rfl
  obtain⟨e,_,_,hed⟩:=edge i H;unfold AG at hed;rw[bind_eq_some_iff]at hed;obtain⟨ok,hok,hokd⟩:=hed;have hmem:ok∈ops.toList:=by
   rw[<-getElem?_toList]at hok;exact mem_of_getElem? hok
  have:Ao [ok] i=true:=by
   unfold Ao at hn⊢;rw[aET]at hn⊢;exact λo ho=>hn o (by rw[mem_singleton.1 ho];exact hmem)
  exact(AX this).1 hokd
 have deadN:∀(js:List Nat) i,(∀y∈js,mvB ops o y=true)->Ao ops.toList i=true->CK js s.t i=s.t i:=by
  intro js i hj hn;unfold CK;have:js.contains i=false:=by
   cases hc:js.contains i with
   |false=>rfl
   |true=>exact absurd rfl (notW i i hn (hj i (by simpa using hc)))
  rw[this];rfl
 have kill:∀(js:List Nat) (xs:List Operand),xs.map (IC t)=xs.map (LC s)->js=jsO (xs.map (LC s))->VLe (AL ((Bc t xs).map λy=>(y,.all)) t) (λi=>(CK js s.t i).v s.r):=by
  intro js xs hx hj i;rw[Df,CB hx,<-hj];show le1 _ ((bif js.contains i then Sl.one Cl.dead else s.t i).v s.r);by_cases hi:i∈js
  .have:js.contains i=true:=by simpa using hi
   rw[if_pos hi,this];exact .inl rfl
  .have:js.contains i=false:=by simpa using hi
   rw[if_neg hi,this];exact ht i
 unfold lqF at h;split at h
 case h_4=>cases h
 .-- a struct
  rename_i ty ps d W F;obtain⟨xs,U⟩:∃xs,xs=ps.toList.map (·.2):=⟨_,rfl⟩
  rw[<-U]at h;have B:=Ud own xs;obtain⟨hb,h⟩:=A1 h;simp only[bAE]at hb;obtain⟨⟨h1,h2⟩,h3⟩:=hb;have h3:d<E.h.n:=blE h3
  have Z:∀y∈jsO (xs.map (LC s)),mvB ops o y=true:=by
   intro y H;split at h2
   .cases h2
   .rename_i a l e;rw[e]at H;exact aET.1 h2 y H
  split at h
  case h_2=>cases h
  rename_i i hi;obtain⟨hag,h⟩:=A1 h;split at h
  case h_2=>cases h
  rename_i l hl;cases h;obtain⟨k1,k2⟩:=Mw (ev:=Ms.ev ⟨t,s.den.σ⟩) _ _ _ (λp _=>hev p.2) hl
  rw[Jx]at k2;have hbi:=hE.Θ.bd hi;rw[hag]at hbi;obtain⟨l',hl'⟩:∃l',l'=(bif E.h.fz.contains (2000000+d)then VB (Ar i.ty 0 i.ty.dflt) l else l):=⟨_,rfl⟩
  have Y:Sub (Ah (l.map (Cl.v s.r))) (Ah (l'.map (Cl.v s.r))):=by
   rw[hl'];cases E.h.fz.contains (2000000+d)with
   |false=>exact Sub.refl _
   |true=>
    show Sub (V.many _ _ _) (V.many _ _ _);refine⟨λk=>((VB (Ar i.ty 0 i.ty.dflt) l).map (Cl.v s.r)).getD k .dead,by simp[MZ],λk _=>XG s.r _ _ k⟩
  rw[<-hl'];refine⟨_,_,λp hp=>?_,by rw[W];rfl,(AaA (Al:=AlP E.h ops o) W F h3 hbi (by rw[<-U,B];exact h1) k1 k2).sub (λ_ h=>h) (λ_ _=>Sub.refl _) Y,?_,λi hn hx hd=>?_⟩
  .rw[<-U,CB B]at hp
   obtain⟨y,H,rfl⟩:=mem_map.1 hp;exact Z y H
  .rw[F,<-U]
   show VLe (AD _ d (Ah (l'.map (Cl.v s.r)))) (λi=>(AC (CK _ s.t) d (.agg l') i).v s.r)
   rw[BL];exact(kill _ xs B rfl).upd (.inl rfl)
  .show AC (CK _ s.t) d _ i=_
   unfold AC;rw[BB λe=>hd (by rw[F,e])]
   exact deadN _ i Z hn
 .-- a slice's literal
  rename_i ty n ps d W F;obtain⟨xs,U⟩:∃xs,xs=ps.toList.map (·.2):=⟨_,rfl⟩
  rw[<-U]at h;have B:=Ud own xs;obtain⟨hb,h⟩:=A1 h;simp only[bAE]at hb;obtain⟨⟨h1,h2⟩,h3⟩:=hb;have h3:d<E.h.n:=blE h3
  have Z:∀y∈jsO (xs.map (LC s)),mvB ops o y=true:=by
   intro y H;split at h2
   .cases h2
   .rename_i a l e;rw[e]at H;exact aET.1 h2 y H
  split at h
  case h_2=>cases h
  rename_i j hj;obtain⟨e,hsl,_⟩:=DW hE.Θ hj;obtain⟨hb2,h⟩:=A1 h;simp only[bAE]at hb2;have hw:=Mb hb2.1;have hnw:=blE hb2.2;split at h
  case h_2=>cases h
  rename_i l hl;obtain⟨hk,h⟩:=A1 h;split at h
  case h_2=>cases h
  rename_i zs hzs;cases h;obtain⟨k1,k2⟩:=Mw (ev:=Ms.ev ⟨t,s.den.σ⟩) _ _ _ (λp _=>hev p.2) hl
  rw[Xf s.r j.ty n hw]at k2;obtain⟨p1,p2,p3⟩:=PV s.r n _ zs hzs
  have Y:Sub (.nd true true j.ty.w n λi k=>(l.map (Cl.v s.r)).getD (i*j.ty.w+k) .dead) (cV (.sl j.ty) (j.sd+1) zs):=by
   show Sub _ (V.nd true true j.ty.w zs.length _);rw[p1];refine⟨_,rfl,λi k hi hk=>?_⟩
   have:=p3 i k hi hk;rw[List.map_map]at this;have e:(Cl.v s.r∘fit j.sd)=Cl.v s.r:=funext λy=>(fitO_v _ s.r y).1
   rw[e]at this;exact this
  refine⟨_,_,λp hp=>?_,by rw[W];rfl,(NC (Al:=AlP E.h ops o) W F h3 hsl hw hnw (by rw[<-U,B];exact h1) k1 k2 ?_).sub (λ_ h=>h) (λ_ _=>Sub.refl _) Y,?_,λi hn hx hd=>?_⟩
  .rw[<-U,CB B]at hp
   obtain⟨y,H,rfl⟩:=mem_map.1 hp;exact Z y H
  .intro v hv
   obtain⟨y,H,rfl⟩:=mem_map.1 hv;exact(XZ (aET.1 hk y H)).1
  .rw[F,<-U]
   show VLe (AD _ d _) (λi=>(AC (CK _ s.t) d _ i).v s.r)
   rw[BL];exact(kill _ xs B rfl).upd (.inl rfl)
  .show AC (CK _ s.t) d _ i=_
   unfold AC;rw[BB λe=>hd (by rw[F,e])]
   exact deadN _ i Z hn
 .-- a store
  rename_i ty p x W F;split at h
  case h_2=>cases h
  rename_i lp l i hp hl hi;obtain⟨hb,h⟩:=A1 h;simp only[cond_true,Option.some.injEq,Prod.mk.injEq]at h;obtain⟨rfl,rfl,rfl⟩:=h;simp only[bAE,or_eq_true]at hb;obtain⟨⟨⟨⟨⟨⟨h1,h2⟩,h3⟩,h4⟩,h5⟩,h6⟩,h7⟩:=hb;have h2:p<E.h.n:=blE h2;have h3:=bqE h3;have h4:=bqE h4;obtain⟨y,H,hyl⟩:=bind_eq_some_iff.1 hl;obtain⟨g1,g2,g3⟩:=UL (r:=s.r) hyl;have hx:Ms.ev ⟨t,s.den.σ⟩ x=y.v s.r:=by
   rw[<-Bg H];refine hev x ?_;rw[Bg H];intro e;rw[e]at g1;cases g1
  have htp:t p=A3 true (lp.map Cl.v0):=by
   have e:s.den.t p=A3 true (lp.map Cl.v0):=newC_v hp s.r;rcases ht p with h|⟨h,_⟩
   .rw[h,e]
   .rw[e]at h;cases h
  have hxp:x≠.tmp p:=by
   rintro rfl
   have h7:(!beq p p)=true:=h7;rw[beq_refl]at h7;cases h7
  have B:=Ud own [x];have hlv:l.map (Cl.v s.r)=l.map Cl.v0:=List.map_congr_left λc hc=>(XZ (aET.1 h5 c hc)).2
  have Z:∀y∈jsO ([x].map (LC s)),mvB ops o y=true:=aET.1 h6;have hti:=hE.Θ.ty hi
  have hlq:=Aaz (Al:=AlP E.h ops o) (P:=P) (N:=E.h.n) (σ:=s.den.σ) (t:=t) W F hti htp (by simpa using h3) h2 hxp (by rw[hx];exact g1) (by rw[hx,g2];simpa using h4)
   (by
    rw[hx,g2];intro v hv;obtain⟨c,hc,rfl⟩:=mem_map.1 hv;exact(XZ (aET.1 h5 c hc)).1)
   (by
    rw[hx,g2];intro v hv;obtain⟨c,hc,rfl⟩:=mem_map.1 hv;exact g3 c hc)
  rw[hx,g2,hlv]at hlq;have hnp:p∉Bc t [x]:=by
   intro hm;rw[CB B]at hm;cases x with
   |tmp z=>
    have hz:z≠p:=λe=>hxp (by rw[e])
    have hm:p∈jsO [bif(s.t z).own then some z else none]:=hm;cases ho:(s.t z).own with
    |true=>rw[ho]at hm;exact hz (mem_singleton.1 hm).symm
    |false=>rw[ho]at hm;cases hm
   |const v=>cases hm
   |global g=>cases hm
   |func f=>cases hm
  have Y:Sub (A3 true (l.map Cl.v0)) (A3 true ((VB lp l).map Cl.v0)):=by
   unfold A3;have e:((VB lp l).map Cl.v0).length=(l.map Cl.v0).length:=by simp[MZ]
   rw[e];refine⟨_,rfl,λi k hi hk=>?_⟩
   obtain rfl:i=0:=by omega
   exact AaV lp l k
  refine⟨(p,.put (A3 true ((VB lp l).map Cl.v0)))::(Bc t [x]).map λy=>(y,.all),.dead,λq hq=>?_,by rw[W];rfl,hlq.sub (λz hz=>?_) (λz v=>?_) (Sub.refl _),?_,λi hn hx hd=>?_⟩
  .rcases mem_cons.1 hq with rfl|hq
   .show(mvB ops o p||mvR ops o p||mvC ops o p)=true
    rcases h1 with h1|h1
    .rw[h1];rfl
    .rw[h1.2,Bool.or_true];rfl
   .rw[CB B]at hq
    obtain⟨y,H,rfl⟩:=mem_map.1 hq;exact Z y H
  .by_cases hzp:z=p
   .subst hzp;rw[HR];simp
   .rw[HQ hzp]at hz⊢;exact hz
  .by_cases hz:z=p
   .subst hz;rw[HR,HR];exact Y
   .rw[HQ hz,HQ hz];exact Sub.refl _
  .rw[F]
   show VLe (AL _ t) (λi=>(AC (CK _ s.t) p (.new (VB lp l)) i).v s.r)
   rw[BL];have hk:=kill _ [x] B rfl;intro i;unfold AD;by_cases hi:i=p
   .subst hi
    rw[if_pos rfl];unfold AL;rw[HR];exact .inl rfl
   .rw[if_neg hi]
    have:=hk i;unfold AL at this⊢;rw[HQ hi];exact this
  .show AC (CK _ s.t) p _ i=_
   unfold AC;have hip:i≠p:=by
    rcases h1 with h1|h1
    .exact notW p i hn h1
    .rintro rfl
     have:yB E ops i=true:=by
      unfold yB;refine any_eq_true.2 ⟨o,hmo,?_⟩;have e:stB o i=true:=by unfold stB;rw[W];exact beq_refl i
      rw[h1.1,e,Bool.or_true];rfl
     rw[hx]at this;cases this
   rw[BB hip];exact deadN _ i Z hn
theorem own_le(F:VLe t s.den.t)(y:Nat):AJ (t y)=(s.t y).own:=by
 have B:AJ (s.den.t y)=(s.t y).own:=Sl.own_v (s.t y);rcases F y with e|⟨U,H⟩
 .grind
 .rw[U]at B;rw[H,<-B];rfl
theorem Acn{ops:Array Oper}{y:Nat}(Y:Ao ops.toList i=true)(U:mvB ops o y=true):i≠y:=by
 rintro rfl
 unfold mvB at U;rw[bAE]at U;obtain⟨e,_,_,B⟩:=Hq U.2;unfold AG at B;rw[bind_eq_some_iff]at B;obtain⟨ok,H,F⟩:=B;have W:=by
  rw[<-getElem?_toList]at H;exact mem_of_getElem? H
 have:Ao [ok] i=true:=by
  unfold Ao at Y⊢
  grind
 exact(AX this).1 F
theorem Ac0{ops:Array Oper}(hj:∀y∈js,mvB ops o y=true)(B:Ao ops.toList i=true):CK js s.t i=s.t i:=by
 unfold CK;have:js.contains i=false:=by
  cases F:js.contains i with
  |false=>rfl
  |true=>exact absurd rfl (Acn B (hj i (by grind)))
 grind
theorem AcZ(F:VLe t s.den.t){xs:List Operand}(B:xs.map (IC t)=xs.map (LC s))(hj:js=jsO (xs.map (LC s))):VLe (AL ((Bc t xs).map λy=>(y,.all)) t) (λi=>(CK js s.t i).v s.r):=by
 intro i;rw[Df,CB B,<-hj];show le1 _ ((bif js.contains i then Sl.one Cl.dead else s.t i).v s.r);by_cases hi:i∈js
 .have:js.contains i=true:=by grind
  rw[if_pos hi,this];exact .inl rfl
 .have:js.contains i=false:=by grind
  rw[if_neg hi,this];exact F i
def onlyS(s:St)(y:Operand):St:=⟨λi=>match y with
 |.tmp z=>bif beq i z then s.t i else .one .dead
 |_=>.one .dead,s.r⟩
theorem Pp{N:Nat}(ht:VLe t s.den.t){x y:Operand}{ys:List ty.T}(hyo:y∈op.operands)(h:Wk s ty (s.ev y)=some (d,ys)):
  ∀(C:Ctx) (ρ:Nat->Value) (F:Nat->Nat->Prop) (a:Act) (w:World) (D:Nat->Prop) (T:Nat->Nat->Prop) (t':Nat->V),(∀z∈Hk op,t' z=t z)->PR C N s.den.σ ρ F t' a w D T->
   ∃Fy,Wa D w ty.w ys.length (λi k=>(tyV ty d (ys.getD i ty.dflt)).getD k .dead) (a.eval y) Fy/\(∀i k c,i<ys.length->k<ty.w->Fy i k c->opF t' T [x,y] 1 c)/\
    ∀i k i' k' c,i<ys.length->k<ty.w->i'<ys.length->k'<ty.w->(i≠i'\/k≠k')->Fy i k c->¬Fy i' k' c:=by
 intro C ρ F a w D T t' hag hp;have hev:∀v,s.ev y=some v->v.v s.r≠.dead->Ms.ev ⟨t',s.den.σ⟩ y=v.v s.r:=by
  intro v hv Z;rw[<-Bg hv]at Z⊢;have h1:Ms.ev ⟨t,s.den.σ⟩ y=s.den.ev y:=((ht.ev (σ:=s.den.σ) y).resolve_right λe=>Z e.1)
  rw[<-h1];cases y with
  |tmp z=>exact hag z (Dr hyo)
  |const v=>rfl
  |global g=>rfl
  |func f=>rfl
 unfold Wk at h;split at h
 .rename_i t1 d1 ys1 B
  split at h
  case isFalse=>cases h
  rename_i e;subst e;obtain⟨hno,h⟩:=A1 h;cases h;have hv:=hev _ B (by intro e;cases e)
  have hr:=hp.opF_rel (xs:=[x,y]) (j:=1) (x:=y) rfl;rw[hv]at hr;exact Xo (R:=Ae s.den.σ ρ w) hr λi k hi hk=>Dp _ _ _ k hno hk
 .rename_i Z
  split at h
  case h_2=>cases h
  rename_i d1 ys1 B;cases h
  -- the value's slot owns nothing
  obtain⟨U,H⟩:∃U,U=onlyS s y:=⟨_,rfl⟩;have hσ2:U.den.σ=s.den.σ:=by rw[H];rfl
  have hs2:U.ev y=s.ev y:=by
   rw[H];cases y with
   |tmp z=>
    show some (bif beq z z then s.t z else .one .dead)=some (s.t z);rw[beq_refl];rfl
   |const v=>rfl
   |global g=>rfl
   |func f=>rfl
  have hdn:∀z,y=.tmp z->(t' z=s.den.t z/\(s.t z).own=false/\z<N):=by
   intro z hz;subst hz;have B:V7 s ty s.r.length (some (s.t z))=some (d,ys,[]):=B
   have hnotown:(s.t z).own=false:=by
    have B:=(YD B).1;unfold V6 at B;split at B
    case h_4=>cases B
    .rename_i e;rw[Option.some.inj e];rfl
    .rename_i e;rw[Option.some.inj e];rfl
    .rename_i e;rw[Option.some.inj e];rfl
   have W:(s.t z).v s.r≠.dead:=by
    have B:=(YD B).1;unfold V6 at B;split at B
    case h_4=>cases B
    .rename_i e;rw[Option.some.inj e];intro e';cases e'
    .rename_i e;rw[Option.some.inj e];intro e';cases e'
    .rename_i e;rw[Option.some.inj e];intro e';cases e'
   have e1:t' z=s.den.t z:=hev (s.t z) rfl W;refine⟨e1,hnotown,Nat.lt_of_not_le λhz=>?_⟩
   have:=hp.dd z hz;rw[e1]at this;exact W this
  have Y:∀i,U.den.t i=.dead\/(U.den.t i=t' i/\AJ (t' i)=false):=by
   intro i;rw[H];cases y with
   |tmp z=>
    show(bif beq i z then s.t i else .one .dead).v s.r=.dead\/_;by_cases hiz:i=z
    .subst hiz
     obtain⟨e1,e2,_⟩:=hdn i rfl;right;refine⟨?_,?_⟩
     .show(bif beq i i then s.t i else .one .dead).v s.r=_
      rw[beq_refl,e1];rfl
     .rw[e1]
      have h5:AJ (s.den.t i)=(s.t i).own:=Sl.own_v (s.t i);rw[h5];exact e2
    .rw[BB hiz];exact .inl rfl
   |const v=>exact .inl rfl
   |global g=>exact .inl rfl
   |func f=>exact .inl rfl
  have hcr:=hp.cr (t2:=U.den.t) Y;have hdd:∀i,N<=i->U.den.t i=.dead:=by
   intro i hi;rcases Y i with h|⟨h,_⟩
   .exact h
   .rw[h];exact hp.dd i hi
  have hy2:V7 U ty s.r.length (U.ev y)=some (d,ys,[]):=by rw[hs2,H];exact B
  rw[<-hσ2]at hcr;obtain⟨⟨Fy,h1,h2,h3⟩,_⟩:=IR (s:=U) hcr hdd hy2;exact⟨Fy,h1,λi k c hi hk hF=>(by obtain⟨j,hj,_⟩:=h2 i k c hi hk hF;cases hj),h3⟩
theorem Y2(Z:VLe t s.den.t){d' W:Nat}{xs:List ty.T}(B:Wl ty d' (s.ev x)=some (W,xs)):
  Sub (Ms.ev ⟨t,s.den.σ⟩ x) (.nd true true ty.w xs.length λi k=>(tyV ty W (xs.getD i ty.dflt)).getD k .dead):=by
 have H:∀v,s.ev x=some v->v.v s.r≠.dead->Ms.ev ⟨t,s.den.σ⟩ x=v.v s.r:=by
  intro v hv F;rw[<-Bg hv]at F⊢;exact(Z.ev x).resolve_right λe=>F e.1
 unfold Wl at B;split at B
 .rename_i t1 d1 Y U
  split at B
  case isFalse=>grind
  rename_i e;subst e;cases B;rw[H _ U (by intro e;cases e)]
  exact Sub.refl _
 .rename_i U
  cases B;rw[H _ U (by intro e;cases e)]
  exact .inr ⟨rfl,_,_,_,rfl⟩
 grind
theorem appO_v(hE:EOK P E){ops:Array Oper}{A:AO}(ht:VLe t s.den.t)(h:appO E ops s o=some A)(hA:A.p):
  ∃ys r,(∀p∈ys,JF ops o p=true)/\VC o.op=true/\LQ P E.h.n s.den.σ (AlP E.h ops o) o t ys r/\VLe (IU o.dst r (AL ys t)) (St.den ⟨AC (CK A.js s.t) A.d A.y,s.r⟩).t/\
   (∀i,Ao ops.toList i=true->o.dst≠some i->AC (CK A.js s.t) A.d A.y i=s.t i):=by
 unfold appO at h;split at h
 case h_2=>cases h
 rename_i ty x y d H B;have H:=Ac8 H;split at h
 case h_2=>cases h
 rename_i j hj;obtain⟨e,hsl,_⟩:=DW hE.Θ hj;have U:=Ud (own_le ht) [x,y];obtain⟨hb,h⟩:=A1 h;simp only[bAE]at hb;obtain⟨⟨⟨⟨h1,h2⟩,h3⟩,h4⟩,h5⟩:=hb;have h3:d<E.h.n:=blE h3;have hby:=Mb h4;have hw:=Mb h5
 have Z:∀Y∈jsO ([x,y].map (LC s)),mvB ops o Y=true:=by
  intro Y hy;split at h2
  .cases h2
  .rename_i a l e;rw[e]at hy;exact aET.1 h2 Y hy
 split at h
 case h_2=>cases h
 rename_i d' ys hys;split at h
 case h_2=>cases h
 rename_i dx xs hxs;obtain⟨hdk,h⟩:=A1 h;cases h;have hA:xs.length+ys.length<=ON j.bytes:=hA
 have hb:(xs.length+ys.length)*j.bytes<=140737488355328:=by
  rw[Nat.mul_comm];exact(Nat.mul_comm _ _▸(Nat.le_div_iff_mul_le hby).1 hA)
 have h63:xs.length+ys.length<=maxLen:=by
  have:xs.length+ys.length<=(xs.length+ys.length)*j.bytes:=Nat.le_mul_of_pos_right _ hby;simp only[maxLen];omega
 have hx:=Y2 ht hxs;have ee:tyV j.ty d'=tyV j.ty dx:=funext λz=>C3 _ _ _ z (Kw hdk)
 have F:=Pp (N:=E.h.n) (x:=x) ht (op:=o.op) (by rw[H];simp[Op.operands,Call.operands]) hys
 rw[ee]at F;have W:=YO (Al:=AlP E.h ops o) (P:=P) (N:=E.h.n) (σ:=s.den.σ) (t:=t) H B h3 hsl hw hx (by rw[U];exact h1) F h63 hb
 have W:=W.sub (λ_ h=>h) (λ_ _=>Sub.refl _) (Nr rfl rfl (λ_ _ _=>rfl) (λ_ _ _=>rfl))
 dsimp only
 generalize hz:(bif E.h.fz.contains d then Z8 (Sl.one (.c (.sl j.ty) (dx+1) (Ac6 xs ys)))else .one (.c (.sl j.ty) (dx+1) (Ac6 xs ys)))=z
 have hlq2:∃r,LQ P E.h.n s.den.σ (AlP E.h ops o) o t ((Bc t [x,y]).map λy=>(y,.all)) r/\le1 r (z.v s.r):=by
  cases hf:E.h.fz.contains d with
  |false=>rw[hf]at hz;subst hz;exact⟨_,W,.inl rfl⟩
  |true=>rw[hf]at hz;subst hz;exact⟨_,W.frzR B h3,AcM (.one (.c (.sl j.ty) (dx+1) (Ac6 xs ys))) s.r⟩
 obtain⟨r,hlr,hle⟩:=hlq2;refine⟨_,r,λp hp=>?_,by rw[H];rfl,hlr,?_,λi hn hd=>?_⟩
 .rw[CB U]at hp
  obtain⟨Y,hy,rfl⟩:=mem_map.1 hp;exact Z Y hy
 .rw[B]
  show VLe (AD _ d _) (λi=>(AC (CK _ s.t) d _ i).v s.r)
  rw[BL];exact(AcZ ht U rfl).upd hle
 .show AC (CK _ s.t) d _ i=_
  unfold AC;rw[BB λe=>hd (by rw[B,e])]
  exact Ac0 Z hn
theorem DP{l:List Oper}(h:∀o∈g,o∈l)(B:Ao l i=true):Ao g i=true:=by
 unfold Ao at B⊢
 grind
theorem Acy(h:le1 v v'):AJ v=AJ v':=by
 rcases h with e|⟨F,B⟩
 .grind
 .rw[B,F];rfl
theorem Ack(h:VD s x=true):AJ (s.den.ev x)=false:=by
 unfold VD at h;split at h
 .rename_i y B
  rw[Bg B];have F:AJ (y.v s.r)=y.own:=Sl.own_v y
  grind
 grind
theorem OL:∀{ρ:Asm}{c:Nat}{v:Bool},ZM ρ c=some v->∃j,(j,c,v)∈ρ
 |[],_,_,h=>by cases h
 |(i,d,u)::ρ,c,v,h=>by
  unfold ZM at h;cases B:beq d c with
  |true=>
   simp_all
  |false=>
   rw[B]at h;obtain⟨j,hj⟩:=OL h
   grind
theorem Kd:∀{ρ:Asm}{j:Nat}{v:Bool},ZN ρ j=some v->∃d,(j,d,v)∈ρ
 |[],_,_,h=>by cases h
 |(i,d,u)::ρ,j,v,h=>by
  unfold ZN at h;cases B:beq i j with
  |true=>
   simp_all
  |false=>
   rw[B]at h;obtain⟨F,hd⟩:=Kd h
   grind
def DZ(ops:Array Oper)(ρ:Asm)(S:Nat->V):Prop:=∀x∈ρ,(ops[x.1]?).bind (·.dst)=some x.2.1/\S x.2.1=.c (.bool x.2.2)
theorem J3{ops:Array Oper}{ρ:Asm}{v:Bool}(W:VLe t s.den.t)(F:DZ ops ρ s.den.t)(h:Oy ρ s op=some v)(hK:K (.c (.bool v))):Oe P s.den.σ (Ms.ev ⟨t,s.den.σ⟩) op K:=by
 unfold Oy at h;split at h
 case h_2=>cases h
 rename_i c x y;cases B:(VD s x&&VD s y)with
 |false=>rw[B]at h;cases h
 |true=>
 rw[B]at h;rw[bAE]at B;simp only[cond_true]at h;split at h
 case h_2=>cases h
 rename_i u hu;obtain⟨j,hj⟩:=OL hu;obtain⟨_,Z⟩:=F _ hj;have U:t c=.c (.bool u):=by
  rcases W c with e|e
  .rw[e];exact Z
  .rw[Z]at e;cases e.1
 have ev:∀x v,s.den.ev x=.c (.bool v)->Ms.ev ⟨t,s.den.σ⟩ x=.c (.bool v):=λx v H=>by
  rcases W.ev (σ:=s.den.σ) x with e|e
  .rw[e];exact H
  simp_all
 have Y:=λx H=>(Acy (W.ev (σ:=s.den.σ) x)).trans (Ack H)
 have hv:=valB_v h;show Xs (t c) (Ms.ev ⟨t,s.den.σ⟩ x) (Ms.ev ⟨t,s.den.σ⟩ y) K;rw[U];refine⟨Y x B.1,Y y B.2,λe=>?_,λe=>?_⟩
 .subst e
  rw[ev x v hv];exact hK
 grind
theorem Aa5(h:isUd (s.t d)=true):s.den.t d=udV:=by
 show(s.t d).v s.r=_;unfold isUd at h;split at h
 .rename_i e;rw[e];rfl
 grind
theorem Acc{d:Option Nat}(F:VLe t s.den.t)(h:HN E.h s d=some s'):s'.r=s.r/\(∀e,d=some e->e<E.h.n)/\(∀i,d≠some i->s'.t i=s.t i/\KY t d i=t i)/\VLe (KY t d) s'.den.t/\∀e,d=some e->AJ (KY t d e)=false:=by
 unfold HN at h;split at h
 .rename_i d
  cases H:blt d E.h.n with
  |false=>grind
  |true=>
   rw[H]at h;cases h;refine⟨rfl,λe B=>by simp_all,λi hi=>⟨?_,if_neg λe=>hi (by grind)⟩,?_,λe B=>?_⟩
   .show AC s.t d _ i=_
    unfold AC;rw[BB λe=>hi (by grind)];rfl
   .show VLe (AD t d udV) (λi=>(AC s.t d (.tup []) i).v s.r)
    rw[BL];exact F.upd (.inl rfl)
   .cases B
    show AJ (AD t d udV d)=false;unfold AD;rw[if_pos rfl];rfl
 .cases h
  exact⟨rfl,(λe B=>by grind),(λ_ _=>⟨rfl,rfl⟩),F,λe B=>by grind⟩
theorem setB_v{d:Option Nat}{v:Bool}{K:(Nat->V)->Prop}(F:VLe t s.den.t)(h:setB E.h s d v=some s')(U:∀t',s'.r=s.r->(∀i,d≠some i->s'.t i=s.t i/\t' i=t i)->VLe t' s'.den.t->(∀e,d=some e->AJ (t' e)=false)->K t'):QK E.h d t K (.c (.bool v)):=by
 unfold setB at h;split at h
 case h_2=>grind
 rename_i d;cases B:(blt d E.h.n&& !E.h.fz.contains d)with
 |false=>grind
 |true=>
 rw[B]at h;rw[bAE,not_eq_true']at B;cases h;refine⟨blE B.1,?_⟩;simp only[B.2,if_false];refine U _ rfl (λi hi=>⟨?_,if_neg λe=>hi (by grind)⟩) ?_ λe H=>?_
 .show AC s.t d _ i=_
  unfold AC;rw[BB λe=>hi (by grind)];rfl
 .show VLe (AD t d _) (λi=>(AC s.t d (.one (.c .bool 0 v)) i).v s.r)
  rw[BL];exact F.upd (.inl rfl)
 .cases H
  unfold AD;rw[if_pos rfl];rfl
variable (hE:EOK P E)
include hE
theorem stepq{R:Type}{s:St}{o:Oper}{f:Sl->Option St}{K:St->Option R}{z:R}{t:Nat->V}{Kt:(Nat->V)->Prop}(W:VLe t s.den.t)(h:(AbB E s o.type o.op λy=>match f y with
   |some s'=>K s'
   |none=>none)=some z) (hf:∀y s',f y=some s'->s.putX true E.h o.dst y=some s')
  (hK:∀s' t' y,s'.r=s.r->(∀i,o.dst≠some i->s'.t i=s.t i/\t' i=t i)->VLe t' s'.den.t->f y=some s'->(∀e,o.dst=some e->(y.own&& !fzD E.h o.dst)=false->AJ (t' e)=false)->K s'=some z->Kt t'):qop P s.den.σ (Ms.ev ⟨t,s.den.σ⟩) o.op (QK E.h o.dst t Kt):=by
 obtain⟨hl,y,hq,U⟩:=Im hE h;split at U
 case h_2=>grind
 rename_i s' B;have Y:=hf y s' B;obtain⟨hr,e,he,hi⟩:=putH_r Y;refine qop_le W hl (Od hq λr0 H=>⟨y.v s.r,H,putH_v Y W λt' F h1 h2=>hK s' t' y hr (λi Z=>⟨hi i λh=>Z (by grind),h1 i Z⟩) F B h2 U⟩)
theorem pathg{ops:Array Oper}{z:Bool}{Kt:(Nat->V)->Prop}{rest:List Oper}:∀(g:List Oper) (ρ:Asm) (s:St) (t:Nat->V) (K:Asm->St->Option Bool),DZ ops ρ s.den.t->(∀x∈ρ,Ao g x.2.1=true)->VLe t s.den.t->Cy E true ops g ρ s K=some z->
  (∀ρ' s' t',s'.r=s.r->(∀i,Ao g i=true->s'.t i=s.t i/\t' i=t i)->(∀i,Ao g i=false->AJ (t' i)=false)->VLe t' s'.den.t->DZ ops ρ' s'.den.t->K ρ' s'=some z->vq P E.h ops s.den.σ rest Kt t')->vq P E.h ops s.den.σ (g++rest) Kt t:=by
 intro g
 induction g with
 |nil=>intro ρ s t K W _ ht h hK;exact hK ρ s t rfl (λ_ _=>⟨rfl,rfl⟩) (λi hi=>by cases hi) ht W h
 |cons o g ih=>
  intro ρ s t K W hnd ht h hK
  have hc:∀i,Ao (o::g) i=((match o.dst with
   |some e=>!beq e i
   |none=>true)&&Ao g i):=λ_=>rfl
  unfold Cy at h;split at h
  case h_1=>cases h
  rename_i j F hgo;split at h
  case h_1=>cases h
  rename_i dj hdj;rw[List.cons_append]
  -- what is behind this operation
  have cont:∀(B:Asm) (s1:St) (t1:Nat->V),DZ ops B s.den.t->(∀x∈B,Ao (o::g) x.2.1=true)->s1.r=s.r->(∀i,o.dst≠some i->s1.t i=s.t i/\t1 i=t i)->VLe t1 s1.den.t->(∀e,o.dst=some e->AJ (t1 e)=false)->Cy E true ops g B s1 K=some z->vq P E.h ops s.den.σ (g++rest) Kt t1:=by
   intro B s1 t1 H U hr hi ht1 ho h1;have hσ:s1.den.σ=s.den.σ:=by show s1.r.map Aa.v=s.r.map Aa.v;rw[hr]
   rw[<-hσ];refine ih B s1 t1 K (λx Z=>⟨(H x Z).1,?_⟩) (λx Z=>(AX (U x Z)).2) ht1 h1 λρ2 s2 t2 h2 h3 h3' h4 h5 h6=>?_
   .show(s1.t x.2.1).v s1.r=_
    rw[(hi _ (AX (U x Z)).1).1,hr];exact(H x Z).2
   .rw[hσ]
    refine hK ρ2 s2 t2 (h2.trans hr) (λi hn=>?_) (λi hn=>?_) h4 h5 h6
    .obtain⟨n1,n2⟩:=AX hn
     exact⟨(h3 i n2).1.trans (hi i n1).1,(h3 i n2).2.trans (hi i n1).2⟩
    .by_cases hg2:Ao g i=true
     .rw[(h3 i hg2).2]
      rw[hc,hg2,Bool.and_true]at hn;split at hn
      .rename_i e he
       have:e=i:=bqE (by simpa using hn)
       subst this;exact ho e he
      .cases hn
     .exact h3' i (by simpa using hg2)
  have pass:∀B:Asm,DZ ops B s.den.t->(∀x∈B,Ao (o::g) x.2.1=true)->onS (HN E.h s o.dst) (λs'=>Cy E true ops g B s' K)=some z->(∀d,o.dst=some d->d<E.h.n)/\vq P E.h ops s.den.σ (g++rest) Kt (KY t o.dst):=by
   intro B h1 h2 h3;cases hp:HN E.h s o.dst with
   |none=>rw[hp]at h3;cases h3
   |some s1=>
    rw[hp]at h3;obtain⟨q1,q2,q3,q4,q5⟩:=Acc ht hp;exact⟨q2,cont B s1 _ h1 h2 q1 q3 q4 q5 h3⟩
  have step:∀B:Asm,DZ ops B s.den.t->(∀x∈B,Ao (o::g) x.2.1=true)->MA E true B s o (λs'=>Cy E true ops g B s' K)=some z->qop P s.den.σ (Ms.ev ⟨t,s.den.σ⟩) o.op (QK E.h o.dst t (vq P E.h ops s.den.σ (g++rest) Kt)):=by
   intro B h1 h2 h3;unfold MA at h3;split at h3
   .rename_i v hv
    split at h3
    case h_2=>cases h3
    rename_i s1 hs1;exact J3 ht h1 hv ⟨_,Sub.refl _,setB_v ht hs1 λt' q1 q2 q3 q4=>cont B s1 t' h1 h2 q1 q2 q3 q4 h3⟩
   .refine stepq hE (f:=λy=>bif y.own&& !fzD E.h o.dst then none else s.putX true E.h o.dst y) (K:=λs'=>Cy E true ops g B s' K) ht h3 (λy s' hy=>?_) λs' t' y hr hi ht' hfy ho hy=>?_
    .cases Y:y.own&& !fzD E.h o.dst with
     |true=>rw[Y]at hy;cases hy
     |false=>rw[Y]at hy;exact hy
    have Y:(y.own&& !fzD E.h o.dst)=false:=by
     cases Y:y.own&& !fzD E.h o.dst with
     |true=>rw[Y]at hfy;cases hfy
     |false=>rfl
    exact cont B s' t' h1 h2 hr hi ht' (λe he=>ho e he Y) hy
  -- what the guard yields
  have run:∀v:Bool,s.den.t dj=.c (.bool v)->gv t ops j=.c (.bool v):=λv hv=>by
   unfold gv;rw[hdj];rcases ht dj with e|e
   .rw[<-hv];exact e
   .rw[hv]at e;cases e.1
  unfold vq;rw[hgo]
  have known:∀(B:Asm) (v:Bool),s.den.t dj=.c (.bool v)->DZ ops B s.den.t->(∀x∈B,Ao (o::g) x.2.1=true)->(v=F->MA E true B s o (λs'=>Cy E true ops g B s' K)=some z)->(v=(!F)->onS (HN E.h s o.dst) (λs'=>Cy E true ops g B s' K)=some z)->
    (match gv t ops j with
     |.c (.bool b)=>(b=F->qop P s.den.σ (Ms.ev ⟨t,s.den.σ⟩) o.op (QK E.h o.dst t (vq P E.h ops s.den.σ (g++rest) Kt)))/\(b=(!F)->(∀d,o.dst=some d->d<E.h.n)/\vq P E.h ops s.den.σ (g++rest) Kt (KY t o.dst))
     |v=>v=udV/\(∀d,o.dst=some d->d<E.h.n)/\vq P E.h ops s.den.σ (g++rest) Kt (KY t o.dst)):=by
   intro B v hv h1 h2 h3 h4;rw[run v hv];exact⟨λe=>step B h1 h2 (h3 e),λe=>pass B h1 h2 (h4 e)⟩
  cases hu:isUd (s.t dj)with
  |true=>
   rw[hu]at h;have hgv:gv t ops j=udV:=by
    unfold gv;rw[hdj];have hv:=Aa5 hu;rcases ht dj with e|e
    .rw[<-hv];exact e
    .rw[hv]at e;cases e.1
   obtain⟨p1,p2⟩:=pass ρ W hnd h
   have hm:(match gv t ops j with
     |.c (.bool b)=>(b=F->qop P s.den.σ (Ms.ev ⟨t,s.den.σ⟩) o.op (QK E.h o.dst t (vq P E.h ops s.den.σ (g++rest) Kt)))/\(b=(!F)->(∀d,o.dst=some d->d<E.h.n)/\vq P E.h ops s.den.σ (g++rest) Kt (KY t o.dst))
     |v=>v=udV/\(∀d,o.dst=some d->d<E.h.n)/\vq P E.h ops s.den.σ (g++rest) Kt (KY t o.dst)):=by
    rw[hgv];exact⟨rfl,p1,p2⟩
   exact hm
  |false=>
   rw[hu]at h;simp only[cond_false]at h;split at h
   .rename_i v hv
    obtain⟨d',hm⟩:=Kd hv;obtain⟨e1,e2⟩:=W _ hm;have e1:some dj=some d':=hdj.symm.trans e1;cases e1;refine known ρ v e2 W hnd (λe=>?_) λe=>?_
    .subst e;simpa using h
    .subst e;cases F<;>exact h
   .split at h
    case h_2=>cases h
    rename_i dd b hb;have hbv:s.den.t dj=.c (.bool b):=by show(s.t dj).v s.r=_;rw[hb];rfl
    obtain⟨hn,h⟩:=A1 h
    have H:DZ ops ((j,dj,b)::ρ) s.den.t:=λx Z=>by
     rcases mem_cons.1 Z with rfl|Z
     .exact⟨hdj,hbv⟩
     .exact W x Z
    have U:∀x∈(j,dj,b)::ρ,Ao (o::g) x.2.1=true:=λx Z=>by
     rcases mem_cons.1 Z with rfl|Z
     .exact hn
     .exact hnd x Z
    refine known ((j,dj,b)::ρ) b hbv H U (λe=>?_) λe=>?_
    .subst e;cases b<;>exact h
    .subst e;cases F<;>exact h
theorem Y9{ops:Array Oper}{K:St->Option R}{z:R}{Kt:(Nat->V)->Prop}:∀(l:List Seg) (s:St) (t:Nat->V),(∀o∈l.flatMap Seg.ops,o∈ops.toList)->VLe t s.den.t->
  Wd E true ops l s K=some z->(∀s' t',s'.r=s.r->(∀i,Ao ops.toList i=true->yB E ops i=false->s'.t i=s.t i)->VLe t' s'.den.t->K s'=some z->Kt t')->vq P E.h ops s.den.σ (l.flatMap Seg.ops) Kt t:=by
 intro l
 induction l with
 |nil=>intro s t _ ht h hK;exact hK s t rfl (λ_ _ _=>rfl) ht h
 |cons sg l ih=>
  intro s t hsub ht h hK;rw[flatMap_cons]at hsub;have W:∀o∈sg.ops,o∈ops.toList:=λo ho=>hsub o (List.mem_append_left _ ho)
  have F:∀o∈l.flatMap Seg.ops,o∈ops.toList:=λo ho=>hsub o (List.mem_append_right _ ho)
  cases sg with
  |one o=>
   unfold Wd at h;split at h
   case h_2=>cases h
   rename_i hg;rw[flatMap_cons];show vq P E.h ops s.den.σ (o::l.flatMap Seg.ops) Kt t;unfold vq;rw[hg];cases hal:alM E.h ops o with
   |true=>
    rw[hal]at h;simp only[Bool.and_self,cond_true]at h;split at h
    case h_2=>cases h
    rename_i d hd;obtain⟨hb,h⟩:=A1 h;refine .inr ⟨rfl,d,hd,blE hb,?_⟩;refine ih ⟨AC s.t d (.one .dead),s.r⟩ _ F ?_ h λs2 t2 h2 H h3 h4=>hK s2 t2 h2 (λi B Z=>?_) h3 h4
    .show VLe _ (λi=>(AC s.t d (.one .dead) i).v s.r)
     rw[BL];exact ht.upd (.inl rfl)
    .rw[H i B Z]
     show AC s.t d (.one .dead) i=s.t i;unfold AC;rw[BB λe=>(AX (o:=o) (g:=[]) (DP (g:=[o]) (λo' ho'=>W o' ho') B)).1 (by rw[hd,e])]
     rfl
   |false=>
   rw[hal]at h;simp only[Bool.and_false,cond_false]at h;refine .inl ⟨rfl,?_⟩;have nd:∀i,Ao ops.toList i=true->o.dst≠some i:=λi B=>(AX (o:=o) (g:=[]) (DP (g:=[o]) (λo' ho'=>W o' ho') B)).1
   split at h
   .rename_i y u d z' hmv
    obtain⟨hdst,hdn,hfz,ys,hys,hmq,hvl,Y⟩:=mvF_v ht hmv;refine .inr (.inl ⟨ys,d,z'.v s.r,hdst,hdn,hfz,hys,hmq,?_⟩);refine ih ⟨AC (AC s.t y u) d z',s.r⟩ _ F hvl h λs2 t2 h2 H h3 h4=>hK s2 t2 h2 (λi B Z=>?_) h3 h4
    rw[H i B Z];have hid:i≠d:=λe=>nd i B (by rw[hdst,e])
    have hiy:i≠y:=by
     rintro rfl
     rcases Y with⟨e,he,hb,Y⟩|⟨hx1,hx2⟩
     rotate_left
     .have:yB E ops i=true:=by
       unfold yB;exact any_eq_true.2 ⟨o,W o (mem_singleton.2 rfl),by rw[hx1,hx2];rfl⟩
      rw[Z]at this;cases this
     unfold AG at Y;rw[bind_eq_some_iff]at Y;obtain⟨ok,hok,hokd⟩:=Y;have hmem:ok∈ops.toList:=by
      rw[<-getElem?_toList]at hok;exact mem_of_getElem? hok
     exact(AX (o:=ok) (g:=[]) (DP (g:=[ok]) (λo' ho'=>by rw[mem_singleton.1 ho'];exact hmem) B)).1 hokd
    show AC (AC s.t y u) d z' i=s.t i;unfold AC;rw[BB hid];show(bif beq i y then _ else s.t i)=s.t i;rw[BB hiy];rfl
   split at h
   .rename_i js pu ds hlq
    obtain⟨ys,r,hys,hne,hq,hvl,hnw⟩:=lqF_v hE ht hlq (W o (mem_singleton.2 rfl));refine .inr (.inr ⟨ys,r,λp hp=>.inl (hys p hp),hne,hq,?_⟩)
    refine ih ⟨AaM ds (AaM pu (CK js s.t)),s.r⟩ _ F hvl h λs2 t2 h2 H h3 h4=>hK s2 t2 h2 (λi B Z=>?_) h3 h4
    rw[H i B Z];exact hnw i B Z (nd i B)
   split at h
   .rename_i A ha
    have h: @ite _ A.p A.dec (Wd E true ops l ⟨AC (CK A.js s.t) A.d A.y,s.r⟩ K) none=some z:=h;by_cases hA:A.p
    case neg=>rw[if_neg hA]at h;cases h
    rw[if_pos hA]at h;obtain⟨ys,r,hys,hne,hq,hvl,hnw⟩:=appO_v hE ht ha hA;refine .inr (.inr ⟨ys,r,λp hp=>.inl (hys p hp),hne,hq,?_⟩)
    refine ih ⟨AC (CK A.js s.t) A.d A.y,s.r⟩ _ F hvl h λs2 t2 h2 H h3 h4=>hK s2 t2 h2 (λi B Z=>?_) h3 h4
    rw[H i B Z];exact hnw i B (nd i B)
   split at h
   .rename_i A ha
    cases hu:A.o with
    |none=>rw[hu]at h;cases h
    |some u=>
    rw[hu]at h;simp only[bind_some]at h;obtain⟨ys,r,hys,hne,hq,hvl,hdst,f,xs,e,zk,g1,g2,g3,g4,g5⟩:=Zc hE.U ht ha hu;refine .inr (.inr ⟨ys,r,hys,hne,hq,?_⟩);refine ih ⟨AC (AC s.t A.y (A.u u)) A.d (A.z u),s.r⟩ _ F hvl h λs2 t2 h2 H h3 h4=>hK s2 t2 h2 (λi B Z=>?_) h3 h4
    rw[H i B Z];have hid:i≠A.d:=λe=>nd i B (by rw[hdst,e])
    have hiy:i≠A.y:=by
     rintro rfl
     have key:ucB E ops o A.y=true->False:=λhu=>by
      have:yB E ops A.y=true:=by
       unfold yB;refine any_eq_true.2 ⟨o,W o (mem_singleton.2 rfl),?_⟩;rw[or_eq_true];exact .inr hu
      rw[Z]at this;cases this
     unfold okU at g5;unfold W3 at g4;unfold ucB at key;rw[g1]at key;simp only[g2,g3]at key;cases hs:alS E.h ops o zk with
     |some y=>
      rw[hs]at g4 key;have g4:y=A.y:=g4;exact key (by rw[g4];exact beq_refl _)
     |none=>
      rw[hs]at g4 g5 key;have g4:zk=A.y:=g4;have g5:(mvB ops o zk||(dX E zk&&(mvR ops o zk||mvC ops o zk)))=true:=g5;rw[or_eq_true]at g5;rcases g5 with g5|g5
      .unfold mvB at g5
       rw[bAE]at g5;obtain⟨e1,he1,_,Y⟩:=Hq g5.2;unfold AG at Y;rw[bind_eq_some_iff]at Y;obtain⟨ok,hok,hokd⟩:=Y;have hmem:ok∈ops.toList:=by
        rw[<-getElem?_toList]at hok;exact mem_of_getElem? hok
       refine(AX (o:=ok) (g:=[]) (DP (g:=[ok]) (λo' ho'=>by rw[mem_singleton.1 ho'];exact hmem) B)).1 ?_
       rw[hokd,g4]
      .rw[bAE]at g5
       exact key (by rw[g5.1,g4];exact beq_refl _)
    show AC (AC s.t A.y (A.u u)) A.d (A.z u) i=s.t i;unfold AC;rw[BB hid];show(bif beq i A.y then _ else s.t i)=s.t i;rw[BB hiy];rfl
   refine .inl (stepq hE (f:=λy=>s.putX true E.h o.dst y) ht h (λ_ _ h=>h) λs' t' _ hr hi ht' _ _ hy=>?_)
   have hσ:s'.den.σ=s.den.σ:=by show s'.r.map Aa.v=s.r.map Aa.v;rw[hr]
   rw[<-hσ]
   exact ih s' t' F ht' hy λs2 t2 h2 H h3 h4=>hK s2 t2 (h2.trans hr) (λi B Z=>by
    rw[H i B Z,(hi i (nd i B)).1]) h3 h4
  |grp g pk=>
   unfold Wd at h;split at h
   case h_2=>cases h
   rename_i d hpd;have hpd2:pk.dst=some d/\pk.guard=none/\d<E.h.n/\E.h.fz.contains d=false:=by
    unfold ZF at hpd;split at hpd
    case h_2=>cases hpd
    rename_i d' e1 e2;obtain⟨hb,hpd⟩:=A1 hpd;cases hpd;rw[bAE,not_eq_true']at hb;exact⟨e1,e2,blE hb.1,hb.2⟩
   obtain⟨e1,e2,h3,h4⟩:=hpd2;cases hv:grpB E true ops s g pk with
   |none=>rw[hv]at h;cases h
   |some v=>
    rw[hv]at h;simp only[bind_some]at h;rw[flatMap_cons];show vq P E.h ops s.den.σ ((g++[pk])++l.flatMap Seg.ops) Kt t;rw[List.append_assoc];refine pathg hE g [] s t _ (λx Z=>by cases Z) (λx Z=>by cases Z) ht hv λρ' s' t' hr hi ho ht' hρ' hs'=>?_
    rw[hr,beq_refl]at hs';have hs':Oy ρ' s' pk.op=some v:=hs';have hσ:s'.den.σ=s.den.σ:=by show s'.r.map Aa.v=s.r.map Aa.v;rw[hr]
    show vq P E.h ops s.den.σ (pk::l.flatMap Seg.ops) Kt t';unfold vq;rw[e2];refine .inl ⟨?_,.inl ?_⟩
    .cases hal:alM E.h ops pk with
     |false=>rfl
     |true=>
      obtain⟨_,_,_,hop,_⟩:=Nx hal;rw[hop]at hs';cases hs'
    rw[<-hσ];refine J3 ht' hρ' hs' ⟨_,Sub.refl _,?_⟩;rw[e1,hσ];refine⟨h3,?_⟩;simp only[h4,Bool.false_eq_true,if_false]
    refine ih ⟨AC (C8 g s.t) d (.one (.c .bool 0 v)),s.r⟩ (AD t' d (.c (.bool v))) F ?_ h λs2 t2 h2 H h3 h4=>hK s2 t2 h2 (λi hn0 hx0=>by
     have B:Ao ((g++[pk])++l.flatMap Seg.ops) i=true:=DP hsub hn0;unfold Ao at B;rw[List.all_append,List.all_append,bAE,bAE]at B;rw[H i hn0 hx0];show AC (C8 g s.t) d (.one (.c .bool 0 v)) i=s.t i;have hid:i≠d:=by
      rintro rfl
      have:=B.1.2;simp only[List.all_cons,List.all_nil,Bool.and_true,e1,beq_refl,Bool.not_true]at this;cases this
     unfold AC;rw[BB hid];show C8 g s.t i=s.t i;rw[DU,if_pos (show Ao g i=true from B.1.1)]) h3 h4
    show VLe _ (λi=>(AC (C8 g s.t) d (.one (.c .bool 0 v)) i).v s.r)
    rw[BL];refine VLe.upd ?_ (.inl rfl);intro i;simp only[DU];by_cases B:Ao g i=true
    .rw[if_pos B,(hi i B).2];exact ht i
    .rw[if_neg B];exact .inr ⟨rfl,ho i (by simpa using B)⟩
end head
end Go.Ve

