/- The typed machine. -/
import Derived.Test.YteakdlfnmhlifaaTg
import Derived.Test.YteakdlfnmhlifaaTd
open Nat(blt beq beq_refl)
open List(flatMap_cons range mem_singleton any_eq_true mem_of_getElem? mem_map mem_cons)
open Bool(not_eq_true' or_eq_true)
open Array(getElem?_toList)
open Option(bind_eq_some_iff bind_some)
set_option linter.all false
namespace Go.Ve
variable{hh:Cd}{Us:List EnU}{js:List Nat}{g:List Oper}{d i k:Nat}{t t':Nat->V}{op:Op}{o:Oper}{x:Operand}{P:Program}{y:Sl}{s s':St}{ty:Ty}{R:Type}{v v':V}{K:V->Prop}
structure Env where
 Θ:Tab
 Γ:List En
 W:List EnW
 N:List EnN
 h:Cd
 U:List EnU
 M:List EnM
variable{E:Env}
def IV:Op->Option (FuncId×Array Operand)
 |.call c=>match c.callee with
  |.value (.func f)=>some (f,c.args)
  |_=>none
 |_=>none
def Cl.live:Cl->Bool
 |.dead=>false
 |.c (.osl _) _ _=>false
 |.c t _ _=>t.one
 |_=>true
def AcY:Option Sl->Bool
 |some (.one y)=>y.live
 |some _=>true
 |none=>false
theorem live_v(h:AcY (s.ev x)=true):s.den.ev x≠.dead:=by
 unfold AcY at h;split at h
 .rename_i y e
  rw[Bd e];cases y with
  |c t d x=>
   cases t<;>first|(intro u;trivial)|rfl
  |dead=>cases h
  |_=>intro u;trivial
 .rename_i y B e
  rw[Bd e];cases y with
  |one c=>grind
  |_=>intro u;trivial
 grind
def St.liveX(s:St):Operand->Bool
 |.func _=>true
 |x=>AcY (s.ev x)
theorem Yt(h:s.liveX x=true):s.den.ev x≠.dead:=by
 cases x with
 |func f=>
  intro e;have e:fnV f=.dead:=e;unfold fnV at e
  grind
 |_=>exact live_v h
def Ab5{R:Type}(E:Env)(s:St)(ty:TypeId)(op:Op)(K:Sl->Option R):Option R:=bif op.operands.toList.all s.liveX then(match IV op with
 |some (f,xs)=>match JQ E.Γ s f (xs.toList.map s.ev)with
  |some a=>II a.o λz=>K (a.y z)
  |none=>match Xm E.N s f (xs.toList.map s.ev)with
   |some a=>II a.o λz=>Wx z.1 (K (a.y true z.2)) (K (a.y false z.2))
   |none=>none
 |none=>match cloF s op with
  |some (g,ys)=>match JQ E.Γ s g (ys.map some)with
   |some a=>II a.o λz=>K (a.y z)
   |none=>none
  |none=>match cloI E.Θ s op with
  |some (g,ys)=>match JQ E.Γ s g (ys.map some)with
   |some a=>II a.o λz=>K (a.y z)
   |none=>none
  |none=>match tq E.Θ s ty op with
   |some (.ok y)=>K y
   |some (.cnd p dec y)=>oif p dec (K y)
   |none=>none)else none
structure EOK(P:Program)(E:Env):Prop where
 Θ:E.Θ.OK P
 Γ:Io P E.Γ
 W:∀e∈E.W,e.OK P
 N:∀e∈E.N,e.OK P
 U:∀e∈E.U,e.OK P
 M:∀e∈E.M,e.OK P
theorem Iv(hE:EOK P E){ty:TypeId}{K:Sl->Option R}{z:R}(h:Ab5 E s ty op K=some z):(∀x∈op.operands,s.den.ev x≠.dead)/\∃y,QS P s op y/\K y=some z:=by
 unfold Ab5 at h;obtain⟨Z,h⟩:=A1 h;refine⟨λx Y=>Yt (aET.1 Z x (by simpa using Y)),?_⟩
 split at h
 .rename_i f xs B
  split at h
  case h_2=>
   split at h
   case h_2=>cases h
   rename_i a F;cases e:a.o with
   |none=>rw[e]at h;cases h
   |some u=>
    rw[e]at h;obtain⟨b,u⟩:=u;refine⟨a.y b u,?_,by cases b<;>exact h⟩
    unfold IV at B;split at B
    case h_2=>cases B
    rename_i c;obtain⟨callee,args,W⟩:=c;split at B
    case h_2=>cases B
    rename_i U H;have H:callee=.value (.func U):=H;subst H;cases B;exact N7 hE.N F e
  rename_i a F;cases e:a.o with
  |none=>rw[e]at h;cases h
  |some u=>
   rw[e]at h;refine⟨a.y u,?_,h⟩;unfold IV at B;split at B
   case h_2=>cases B
   rename_i c;obtain⟨callee,args,W⟩:=c;split at B
   case h_2=>cases B
   rename_i U H;have H:callee=.value (.func U):=H;subst H;cases B;exact P2 hE.Γ F e
 .split at h
  .rename_i g ys O
   split at h
   case h_2=>cases h
   rename_i a F;cases e:a.o with
   |none=>rw[e]at h;cases h
   |some u=>
    rw[e]at h;exact⟨a.y u,Wv hE.Γ O F e,h⟩
  split at h
  .rename_i g ys O
   split at h
   case h_2=>cases h
   rename_i a F;cases e:a.o with
   |none=>rw[e]at h;cases h
   |some u=>
    rw[e]at h;exact⟨a.y u,Wu hE.Θ hE.Γ O F e,h⟩
  split at h
  .rename_i y F
   exact⟨y,Q5 hE.Θ F trivial,h⟩
  .rename_i p dec y F
   have h: @ite _ p dec (K y) none=some z:=h;by_cases J:p
   .rw[if_pos J]at h
    exact⟨y,Q5 hE.Θ F J,h⟩
   .rw[if_neg J]at h;cases h
  .cases h
def St.putH(h:Cd)(s:St)(d:Option Nat)(y:Sl):Option St:=match d with
 |none=>none
 |some d=>bif blt d h.n then(bif h.fz.contains d then(match y.frz with
   |some e=>some ⟨AJ s.t d e,s.r⟩
   |none=>none)else some ⟨AJ s.t d y,s.r⟩)else none
def St.putX(hd:Bool)(h:Cd)(s:St)(d:Option Nat)(y:Sl):Option St:=bif hd then s.putH h d y else s.put h d y
inductive Seg where
 |one (o:Oper)
 |grp (g:List Oper) (pk:Oper)
def Seg.ops:Seg->List Oper
 |.one o=>[o]
 |.grp g pk=>g++[pk]
def Vq:List Oper->List Oper×List Oper
 |[]=>([],[])
 |o::l=>bif o.guard.isSome then(o::(Vq l).1,(Vq l).2)else([],o::l)
def Zr:Nat->List Oper->List Seg
 |0,l=>l.map .one
 |_+1,[]=>[]
 |n+1,o::l=>match o.guard with
  |none=>.one o::Zr n l
  |some _=>match Vq l with
   |(g,pk::rest)=>.grp (o::g) pk::Zr n rest
   |(_,[])=>(o::l).map .one
def N0:∀l,(Vq l).1++(Vq l).2=l
 |[]=>rfl
 |o::l=>by
  unfold Vq;cases e:o.guard.isSome with
  |true=>simp[N0 l]
  |false=>rfl
def M6:∀l:List Oper,(l.map Seg.one).flatMap Seg.ops=l
 |[]=>rfl
 |o::l=>by rw[List.map_cons,flatMap_cons,M6 l];rfl
def Ck:∀(n:Nat) (l:List Oper),(Zr n l).flatMap Seg.ops=l
 |0,l=>M6 l
 |n+1,[]=>rfl
 |n+1,o::l=>by
  unfold Zr;split
  .rw[flatMap_cons,Ck n l];rfl
  .split
   .rename_i g pk rest e
    rw[flatMap_cons,Ck n rest];have:=N0 l;rw[e]at this;rw[<-this];simp[Seg.ops]
   .exact M6 _
def valB(s:St)(x:Operand):Option Bool:=match s.ev x with
 |some (.one (.c .bool _ b))=>some b
 |_=>none
theorem valB_v{b:Bool}(h:valB s x=some b):s.den.ev x=.c (.bool b):=by
 unfold valB at h;split at h
 .rename_i d u e
  cases h;rw[Bd e];rfl
 grind
def Df:List Oper->(Nat->Sl)->Nat->Sl
 |[],t=>t
 |o::l,t=>match o.dst with
  |some d=>Df l (AJ t d (.one .dead))
  |none=>Df l t
def Au(g:List Oper)(d:Nat):Bool:=g.all λo=>match o.dst with
 |some e=>!beq e d
 |none=>true
abbrev Asm:=List (Nat×Nat×Bool)
def Aao:Asm->Nat->Option Bool
 |[],_=>none
 |(i,_,v)::ρ,j=>bif beq i j then some v else Aao ρ j
def Aan:Asm->Nat->Option Bool
 |[],_=>none
 |(_,d,v)::ρ,c=>bif beq d c then some v else Aan ρ c
def isUd:Sl->Bool
 |.tup []=>true
 |_=>false
def V3(s:St)(x:Operand):Bool:=match s.ev x with
 |some y=>!y.own
 |none=>false
def ON(ρ:Asm)(s:St):Op->Option Bool
 |.pick (.tmp c) x y=>bif V3 s x&&V3 s y then(match Aan ρ c with
  |some v=>valB s (bif v then x else y)
  |none=>none)else none
 |_=>none
def setB(h:Cd)(s:St)(d:Option Nat)(v:Bool):Option St:=match d with
 |some d=>bif blt d h.n&& !h.fz.contains d then some ⟨AJ s.t d (.one (.c .bool 0 v)),s.r⟩else none
 |none=>none
def H1(h:Cd)(s:St)(d:Option Nat):Option St:=match d with
 |some d=>bif blt d h.n then some ⟨AJ s.t d (.tup []),s.r⟩else none
 |none=>some s
def fzD(h:Cd):Option Nat->Bool
 |some d=>h.fz.contains d
 |none=>false
def MI(E:Env)(hd:Bool)(ρ:Asm)(s:St)(o:Oper)(K:St->Option Bool):Option Bool:=match ON ρ s o.op with
 |some v=>match setB E.h s o.dst v with
  |some s'=>K s'
  |none=>none
 |none=>Ab5 E s o.type o.op λy=>match(bif y.own&& !fzD E.h o.dst then none else s.putX hd E.h o.dst y)with
  |some s'=>K s'
  |none=>none
def onS(o:Option St)(K:St->Option Bool):Option Bool:=match o with
 |some s=>K s
 |none=>none
def CG(E:Env)(hd:Bool)(ops:Array Oper):List Oper->Asm->St->(Asm->St->Option Bool)->Option Bool
 |[],ρ,s,K=>K ρ s
 |o::l,ρ,s,K=>match o.guard with
  |none=>none
  |some (j,want)=>match(ops[j]?).bind (·.dst)with
   |none=>none
   |some e=>bif isUd (s.t e)then onS (H1 E.h s o.dst) (λs'=>CG E hd ops l ρ s' K)else match Aao ρ j with
    |some v=>bif v==want then MI E hd ρ s o (λs'=>CG E hd ops l ρ s' K)else onS (H1 E.h s o.dst) (λs'=>CG E hd ops l ρ s' K)
    |none=>match s.t e with
     |.one (.c .bool _ b)=>bif Au (o::l) e then
      Wx b (bif want then MI E hd ((j,e,true)::ρ) s o (λs'=>CG E hd ops l ((j,e,true)::ρ) s' K)else onS (H1 E.h s o.dst) (λs'=>CG E hd ops l ((j,e,true)::ρ) s' K))
       (bif want then onS (H1 E.h s o.dst) (λs'=>CG E hd ops l ((j,e,false)::ρ) s' K)else MI E hd ((j,e,false)::ρ) s o (λs'=>CG E hd ops l ((j,e,false)::ρ) s' K))else none
     |_=>none
def grpB(E:Env)(hd:Bool)(ops:Array Oper)(s:St)(g:List Oper)(pk:Oper):Option Bool:=
 CG E hd ops g [] s λρ s'=>bif beq s'.r.length s.r.length then ON ρ s' pk.op else none
def Aae(h:Cd)(pk:Oper):Option Nat:=match pk.dst,pk.guard with
 |some d,none=>bif blt d h.n&& !h.fz.contains d then some d else none
 |_,_=>none
def partS:Bool×List Cl->Option Sl
 |(true,m)=>some (.agg m)
 |(false,y::_)=>some (.one y)
 |(false,[])=>none
def hdS:Sl->Sl
 |.one (.c (.sl _) (_+1) xs)=>.one (.c (.sl .unit) 0 (Abm (H7 xs) ()))
 |.one (.c (.osl _) (_+1) x)=>match x with
  |some xs=>.one (.c (.sl .unit) 0 (Abm (H7 xs) ()))
  |none=>.one .dead
 |_=>.one .dead
theorem hdS_v(r:List Ab)(y:Sl):hdV (y.v r)=(hdS y).v r:=by
 cases y with
 |one c=>
  cases c with
  |c t d x=>
   cases t with
   |sl t=>
    cases d with
    |zero=>rfl
    |succ d=>
     show V.nd true false 0 x.length (λ_ _=>.dead)=V.nd true false 0 (List.replicate x.length ()).length λi k=>([].getD k .dead)
     simp
   |ptr t=>rfl
   |osl t=>
    cases d with
    |zero=>cases x<;>rfl
    |succ d=>
     cases x with
     |none=>rfl
     |some x=>
      show V.nd true false 0 x.length (λ_ _=>.dead)=V.nd true false 0 (List.replicate x.length ()).length λi k=>([].getD k .dead)
      simp
   |_=>rfl
  |_=>rfl
 |_=>rfl
def dX(E:Env)(y:Nat):Bool:=E.h.fz.contains (y+1000000)
def Kh(o:Oper)(y:Nat):Bool:=match o.op with
 |.assign (.tmp z)=>beq z y
 |.move (.tmp z)=>beq z y
 |_=>false
def stB(o:Oper)(y:Nat):Bool:=match o.op with
 |.store _ (.tmp z) _=>beq z y
 |_=>false
def alS(h:Cd)(ops:Array Oper)(o:Oper)(z:Nat):Option Nat:=o.after.toList.findSome? λe=>bif Region.binds .any e then(match ops[e.on]? with
 |some c=>bif alM h ops c then(match c.op,c.dst with
  |.move (.tmp y),some z'=>bif beq z' z then some y else none
  |_,_=>none)else none
 |none=>none)else none
theorem alS_v{h:Cd}{ops:Array Oper}{z y:Nat}(U:alS h ops o z=some y):AlP h ops o z y:=by
 obtain⟨e,Z,u⟩:=List.exists_of_findSome?_eq_some U;cases H:Region.binds .any e with
 |false=>grind
 |true=>
  rw[H]at u;split at u
  case h_2=>grind
  rename_i c W;cases B:alM h ops c with
  |false=>grind
  |true=>
   rw[B]at u;split at u
   case h_2=>cases u
   rename_i Y J F hd;cases O:beq J z with
   |false=>grind
   |true=>
    rw[O]at u;cases u;exact⟨e,by grind,H,c,W,B,F,by simp_all⟩
def Xv(h:Cd)(ops:Array Oper)(o:Oper)(z:Nat):Nat:=match alS h ops o z with
 |some y=>y
 |none=>z
def okU(h:Cd)(e:Nat->Bool)(ops:Array Oper)(o:Oper)(z:Nat):Bool:=match alS h ops o z with
 |some y=>Vr h ops o (y,.put .dead)
 |none=>mvB ops o z||(e z&&(mvR ops o z||mvC ops o z))
def ucB(E:Env)(ops:Array Oper)(o:Oper)(y:Nat):Bool:=match IV o.op with
 |some (f,xs)=>match Kk E.U f with
  |some e=>match xs.toList[e.S.k]? with
   |some (.tmp z)=>match alS E.h ops o z with
    |some u=>beq u y
    |none=>dX E z&&beq z y
   |_=>false
  |none=>false
 |none=>false
def yB(E:Env)(ops:Array Oper)(y:Nat):Bool:=ops.toList.any λo=>(dX E y&&(Kh o y||stB o y))||ucB E ops o y
def mvF(E:Env)(ops:Array Oper)(s:St)(o:Oper):Option (Nat×Sl×Nat×Sl):=match o.op,o.dst with
 |.assign (.tmp y),some d=>bif(s.t y).own&&blt d E.h.n&& !E.h.fz.contains d&&(mvB ops o y||(dX E y&&mvR ops o y))then some (y,hdS (s.t y),d,s.t y)else none
 |.move (.tmp y),some d=>bif(s.t y).own&&blt d E.h.n&& !E.h.fz.contains d&&(mvB ops o y||(dX E y&&mvR ops o y))then some (y,hdS (s.t y),d,s.t y)else none
 |.extract (.tmp y) c,some d=>match s.t y with
  |.tup l=>match l[c]? with
   |some q=>match partS q with
    |some z=>bif z.own&&blt d E.h.n&& !E.h.fz.contains d&&exB ops o y c then some (y,.tup (l.set c (false,[])),d,z)else none
    |none=>none
   |none=>none
  |_=>none
 |_,_=>none
def notT(p:Nat):Operand->Bool
 |.tmp y=>!beq y p
 |_=>true
def newC:Sl->Option (List Cl)
 |.new lp=>some lp
 |.one (.c (.ptr u) (d+1) z)=>some (Aq u d z)
 |_=>none
theorem newC_v{lp:List Cl}(h:newC y=some lp)(r:List Ab):y.v r=A8 true (lp.map Cl.v0):=by
 unfold newC at h;split at h
 .cases h;rfl
 .rename_i u d z
  cases h;show A8 (decide (0<d+1)) (tyV u (d+1-1) z)=_;rw[Bs,dT (Nat.succ_pos _)];rfl
 .cases h
def lqF(E:Env)(ops:Array Oper)(s:St)(o:Oper):Option (List Nat×Option (Nat×Sl)×Option (Nat×Sl)):=match o.op,o.dst with
 |.build t ps,some d=>bif C8 ((ps.toList.map (·.2)).map (LP s))&&(match jsO ((ps.toList.map (·.2)).map (LP s))with
   |[]=>false
   |a::l=>(a::l).all (mvB ops o))&&blt d E.h.n then(match E.Θ.look t with
    |some i=>bif i.agg then(match N4 (λk=>i.places[k]?) (Ir i.ty) (ps.toList.map λp=>(p.1,s.ev p.2))with
     |some l=>some (jsO ((ps.toList.map (·.2)).map (LP s)),none,some (d,.agg (bif E.h.fz.contains (2000000+d)then V1 (Aq i.ty 0 i.ty.dflt) l else l)))
     |none=>none)else none
    |none=>none)else none
 |.buildSlice t n ps,some d=>bif C8 ((ps.toList.map (·.2)).map (LP s))&&(match jsO ((ps.toList.map (·.2)).map (LP s))with
   |[]=>false
   |a::l=>(a::l).all (mvB ops o))&&blt d E.h.n then(match((E.Θ.look t).bind (·.elem)).bind E.Θ.look with
    |some j=>bif blt 0 j.ty.w&&Nat.ble (n*j.ty.w) 16777216 then(match N4 (λi=>some (i*j.ty.w,j.ty.w)) (AcC n (Ir j.ty)) (ps.toList.map λp=>(p.1,s.ev p.2))with
     |some l=>bif l.all Cl.keep then(match OQ j.ty j.sd n (l.map (fit j.sd))with
      |some xs=>some (jsO ((ps.toList.map (·.2)).map (LP s)),none,some (d,.one (.c (.sl j.ty) (j.sd+1) xs)))
      |none=>none)else none
     |none=>none)else none
    |none=>none)else none
 |.store t (.tmp p) x,none=>match newC (s.t p),(s.ev x).bind Sl.cellsO,E.Θ.look t with
  |some lp,some l,some i=>bif(mvB ops o p||(dX E p&&mvR ops o p))&&blt p E.h.n&&beq lp.length i.ty.w&&beq l.length i.ty.w&&l.all Cl.keep&&(jsO ([x].map (LP s))).all (mvB ops o)&&notT p x then some (jsO ([x].map (LP s)),some (p,.new (V1 lp l)),none)else none
  |_,_,_=>none
 |_,_=>none
def Y9:Op->Option (TypeId×Operand×Operand)
 |.call c=>match c.callee,c.args.toList,c.argTypes.toList with
  |.builtin .append,[x,y],[t,t']=>bif beq t t' then some (t,x,y)else none
  |_,_,_=>none
 |_=>none
theorem list2{α:Type}{xs:Array α}{x y:α}(h:xs.toList=[x,y]):xs= #[x,y]:=by grind
theorem AdC{t:TypeId}{y:Operand}(h:Y9 op=some (t,x,y)):op=.call ⟨.builtin .append,#[x,y],#[t,t]⟩:=by
 unfold Y9 at h;split at h
 case h_2=>grind
 rename_i c;obtain⟨callee,args,F⟩:=c;simp at h;split at h
 case h_2=>grind
 rename_i J H t1 t2 B e;cases u:beq t1 t2 with
 |false=>grind
 |true=>
  rw[u]at h;cases h;have:=bqE u;subst this;rw[list2 B,list2 e]
def WN(t:Ty)(e:Nat):Option Sl->Option (Nat×List t.T)
 |some (.one (.c (.sl t') (d+1) xs))=>if h:t'=t then some (d,h▸xs)else none
 |some (.one .nil)=>some (e,[])
 |_=>none
def WM(s:St)(t:Ty):Option Sl->Option (Nat×List t.T)
 |some (.one (.c (.sl t') (d+1) ys))=>if h:t'=t then(bif t.noO then some (d,h▸ys)else none)else none
 |y=>match Wz s t s.r.length y with
  |some (d,ys,[])=>some (d,ys)
  |_=>none
structure AO where
 p:Prop
 dec:Decidable p
 js:List Nat
 d:Nat
 y:Sl
def le1(v v':V):Prop:=v=v'\/(v'=.dead/\AK v=false)
def AaI(y:Sl):Sl:=match y.frz with
 |some z=>z
 |none=>.one .dead
theorem Adl(y:Sl)(r:List Ab):le1 (Go.Ve.frz (y.v r)) ((AaI y).v r):=by
 have u:∀v,AK (Go.Ve.frz v)=false:=by
  intro v
  induction v with
  |many t n f F=>show((range n).any λk=>AK (Go.Ve.frz (f k)))=false;grind
  |nd=>rfl
  |_=>rfl
 unfold AaI;cases e:y.frz with
 |none=>exact .inr ⟨rfl,u _⟩
 |some B=>exact .inl (Sl.frz_v e)
def appO(E:Env)(ops:Array Oper)(s:St)(o:Oper):Option AO:=match Y9 o.op,o.dst with
 |some (t,x,y),some d=>(match((E.Θ.look t).bind (·.elem)).bind E.Θ.look with
  |some i=>bif C8 ([x,y].map (LP s))&&(match jsO ([x,y].map (LP s))with
    |[]=>false
    |a::l=>(a::l).all (mvB ops o))&&blt d E.h.n&&blt 0 i.bytes&&blt 0 i.ty.w then(match WM s i.ty (s.ev y)with
   |some (d',ys)=>match WN i.ty d' (s.ev x)with
    |some (dx,xs)=>bif dOK i.ty d' dx then some ⟨H7 xs+H7 ys<=O0 i.bytes,inferInstance,jsO ([x,y].map (LP s)),d,(bif E.h.fz.contains d then AaI (.one (.c (.sl i.ty) (dx+1) (Adz xs ys)))else .one (.c (.sl i.ty) (dx+1) (Adz xs ys)))⟩else none
    |none=>none
   |none=>none)else none
  |none=>none)
 |_,_=>none
structure Vk where
 α:Type
 o:Option α
 y:Nat
 d:Nat
 u:α->Sl
 z:α->Sl
variable{A:Vk}
def My(h:Cd)(B:Nat->Bool)(sl:Nat->Nat)(Us:List EnU)(s:St)(o:Oper):Option Vk:=match IV o.op,o.dst with
 |some (f,xs),some d=>match Kk Us f with
  |some e=>match xs.toList[e.S.k]? with
   |some (.tmp z)=>match s.t (sl z)with
    |.one (.c t dd x)=>if ht:t=e.S.t then
      bif beq dd e.S.d&&blt d h.n&&blt (sl z) h.n&& !beq (sl z) d&&B z&&DF e.S.rs&&((CS e.S.k xs.toList).map s.ev).all uok&&(CS e.S.k xs.toList).all s.liveX then
       (match Hn s e.S.ps ((CS e.S.k xs.toList).map s.ev)with
       |some F=>some ⟨(RT e.S.rs).T×e.S.t.T,Wx (bif e.S.eat then true else Ade e.S.t (ht▸x)) (e.g F (ht▸x)) none,sl z,d,λu=>bif e.S.eat then .one .dead else .one (.c e.S.t e.S.d u.2),λu=>bif h.fz.contains d then AaI (MP true e.S.rs u.1)else MP true e.S.rs u.1⟩
       |none=>none)else none
     else none
    |_=>none
   |_=>none
  |none=>none
 |_,_=>none
def Abg(h:Cd)(e:Nat->Bool)(Us:List EnU)(ops:Array Oper)(s:St)(o:Oper):Option Vk:=My h (okU h e ops o) (Xv h ops o) Us s o
def Abk:Option (Nat×Sl)->(Nat->Sl)->Nat->Sl
 |some (d,y),t=>AJ t d y
 |none,t=>t
def WF{R:Type}(E:Env)(hd:Bool)(ops:Array Oper):List Seg->St->(St->Option R)->Option R
 |[],s,K=>K s
 |.one o::l,s,K=>match o.guard with
  |none=>bif hd&&alM E.h ops o then(match o.dst with
   |some d=>bif blt d E.h.n then WF E hd ops l ⟨AJ s.t d (.one .dead),s.r⟩ K else none
   |none=>none)else match mvF E ops s o with
   |some (y,u,d,z)=>WF E hd ops l ⟨AJ (AJ s.t y u) d z,s.r⟩ K
   |none=>match(bif hd then lqF E ops s o else none)with
    |some (js,pu,ds)=>WF E hd ops l ⟨Abk ds (Abk pu (CU js s.t)),s.r⟩ K
    |none=>match(bif hd then appO E ops s o else none)with
     |some A=>oif A.p A.dec (WF E hd ops l ⟨AJ (CU A.js s.t) A.d A.y,s.r⟩ K)
     |none=>match(bif hd then Abg E.h (dX E) E.U ops s o else none)with
      |some A=>II A.o λu=>WF E hd ops l ⟨AJ (AJ s.t A.y (A.u u)) A.d (A.z u),s.r⟩ K
      |none=>Ab5 E s o.type o.op λy=>match s.putX hd E.h o.dst y with
       |some s'=>WF E hd ops l s' K
       |none=>none
  |some _=>none
 |.grp g pk::l,s,K=>match Aae E.h pk with
  |some d=>II (grpB E hd ops s g pk) λv=>WF E hd ops l ⟨AJ (Df g s.t) d (.one (.c .bool 0 v)),s.r⟩ K
  |none=>none
theorem BK{a b:Nat}(h:a≠b):beq a b=false:=by
 cases e:beq a b with
 |false=>rfl
 |true=>simp_all
theorem D9:∀(g:List Oper) (t:Nat->Sl) (i:Nat),Df g t i=if Au g i then t i else .one .dead
 |[],t,i=>rfl
 |o::g,t,i=>by
  have B:Au (o::g) i=((match o.dst with
   |some e=>!beq e i
   |none=>true)&&Au g i):=rfl
  rw[B];unfold Df;cases hd:o.dst with
  |none=>
   exact D9 g t i
  |some d=>
   simp;rw[D9 g];by_cases u:d=i
   .subst u
    simp[AJ]
   .have H:=BK u
    have F:=BK (Ne.symm u);simp[AJ,H,F]
def VLe(t t':Nat->V):Prop:=∀i,le1 (t i) (t' i)
def VLe.refl(t:Nat->V):VLe t t:=λ_=>.inl rfl
theorem VLe.upd(h:VLe t t')(e:le1 v v'):VLe (AD t d v) (AD t' d v'):=by
 intro i;unfold AD;split
 .grind
 .exact h i
theorem VLe.ev{t t':Nat->V}{σ:List V}(h:VLe t t')(x:Operand):le1 (Ms.ev ⟨t,σ⟩ x) (Ms.ev ⟨t',σ⟩ x):=by
 cases x with
 |tmp i=>exact h i
 |_=>exact .inl rfl
def qop_le{σ:List V}(h:VLe t t')(F:∀x∈op.operands,Ms.ev ⟨t',σ⟩ x≠.dead)(B:Oq P σ (Ms.ev ⟨t',σ⟩) op K):Oq P σ (Ms.ev ⟨t,σ⟩) op K:=
 Ly (λx u=>((h.ev x).resolve_right λe=>F x u e.1).symm) B
section head
variable {P:Program}{E:Env}
theorem putH_v{d:Option Nat}{K:(Nat->V)->Prop}(u:s.putH E.h d y=some s')(J:VLe t s.den.t)(hK:∀t',VLe t' s'.den.t->(∀i,d≠some i->t' i=t i)->(∀e,d=some e->(y.own&& !fzD E.h d)=false->AK (t' e)=false)->K t'):QK E.h d t K (y.v s.r):=by
 unfold St.putH at u;split at u
 .cases u
 .rename_i d
  obtain⟨hb,u⟩:=A1 u
  have H:∀v:V,AK (frz v)=false:=by
   intro v
   induction v with
   |many t n f W=>show((range n).any λk=>AK (frz (f k)))=false;rw[List.any_eq_false];intro k _;rw[W k];simp
   |nd=>rfl
   |_=>rfl
  refine⟨blE hb,hK _ ?_ (λi hi=>if_neg λe=>hi (by rw[e])) λe Z F=>?_⟩
  rotate_left
  .cases Z
   unfold AD;rw[if_pos rfl];split
   .exact H _
   .rename_i B
    rw[Sl.own_v];have B:E.h.fz.contains d=false:=by simpa using B
    have F:(y.own&& !E.h.fz.contains d)=false:=F;rw[B]at F;simpa using F
  cases O:E.h.fz.contains d with
  |true=>
   rw[O]at u;simp only[cond_true]at u;split at u
   .rename_i U Y
    cases u;simp only[if_true];rw[Sl.frz_v Y];show VLe _ (λi=>(AJ s.t d U i).v s.r)
    rw[B3];exact J.upd (.inl rfl)
   .cases u
  |false=>
   rw[O]at u;simp only[cond_false,Option.some.injEq]at u;subst u;show VLe _ (λi=>(AJ s.t d y i).v s.r)
   rw[B3];exact J.upd (.inl rfl)
theorem putH_r{d:Option Nat}(u:s.putH E.h d y=some s'):s'.r=s.r/\∃e,d=some e/\∀i,i≠e->s'.t i=s.t i:=by
 unfold St.putH at u;split at u
 .cases u
 .rename_i d
  have key:∀B,∀i,i≠d->AJ s.t d B i=s.t i:=λB i hi=>by
   unfold AJ;cases J:beq i d with
   |false=>rfl
   |true=>simp_all
  cases H:blt d E.h.n with
  |false=>grind
  |true=>
   rw[H]at u;simp only[cond_true]at u;cases F:E.h.fz.contains d with
   |true=>
    rw[F]at u;split at u
    .cases u;grind
    grind
   |false=>
    rw[F]at u;simp[cond_false,Option.some.injEq]at u;subst u
    grind
theorem AZ(h:Au (o::g) d=true):o.dst≠some d/\Au g d=true:=by
 have u:Au (o::g) d=((match o.dst with
  |some e=>!beq e d
  |none=>true)&&Au g d):=rfl
 rw[u,bAE]at h;refine⟨λhd=>?_,h.2⟩
 simp_all
theorem YO{l:List V}{c:Nat}:(l.set c .dead).getD k .dead=if k=c then .dead else l.getD k .dead:=by grind
theorem mvF_v{ops:Array Oper}{y:Nat}{u z:Sl}(ht:VLe t s.den.t)(h:mvF E ops s o=some (y,u,d,z)):
  o.dst=some d/\d<E.h.n/\E.h.fz.contains d=false/\∃ys,(∀p∈ys,JO ops o p=true)/\mq t o ys (z.v s.r)/\VLe (AD (AQ ys t) d (z.v s.r)) (St.den ⟨AJ (AJ s.t y u) d z,s.r⟩).t/\
   ((∃e∈o.after,Region.binds .any e=true/\AF ops e.on=some y)\/(dX E y=true/\Kh o y=true)):=by
 have own:∀y,(s.t y).own=true->t y=s.den.t y:=by
  intro y Z;rcases ht y with e|e
  .exact e
  .have h5:AK (s.den.t y)=(s.t y).own:=Sl.own_v (s.t y)
   rw[e.1,Z]at h5;cases h5
 have W:∀ys (V0:V),(∀x,AQ ys t x=if x=y then V0 else t x)->le1 V0 (u.v s.r)->VLe (AD (AQ ys t) d (z.v s.r)) (St.den ⟨AJ (AJ s.t y u) d z,s.r⟩).t:=by
  intro ys V0 hk hu;show VLe _ (λi=>(AJ (AJ s.t y u) d z i).v s.r)
  rw[B3];refine VLe.upd ?_ (.inl rfl);rw[B3];intro i;rw[hk];unfold AD;split
  .exact hu
  .exact ht i
 have kM:∀(y:Nat) (Y:Tk) x,AQ [(y,Y)] t x=if x=y then kapp Y (t y)else t x:=by
  intro y Y x;unfold AQ;by_cases hx:x=y
  .subst hx
   rw[if_pos rfl];show Iq (if x=x then some Y else none) _=_
   rw[if_pos rfl];rfl
  .rw[if_neg hx]
   show Iq (if y=x then some Y else none) _=_
   rw[if_neg (Ne.symm hx)];rfl
 have edge:∀y,mvB ops o y=true->∃e∈o.after,Region.binds .any e=true/\AF ops e.on=some y:=by
  intro y Z;unfold mvB at Z;rw[bAE]at Z;exact HF Z.2
 have J:∀(B U:Nat),(o.op=.assign (.tmp B)\/o.op=.move (.tmp B))->o.dst=some U->(bif(s.t B).own&&blt U E.h.n&& !E.h.fz.contains U&&(mvB ops o B||(dX E B&&mvR ops o B))then some (B,hdS (s.t B),U,s.t B)else none)=some (y,u,d,z)->
   o.dst=some d/\d<E.h.n/\E.h.fz.contains d=false/\∃ys,(∀p∈ys,JO ops o p=true)/\mq t o ys (z.v s.r)/\VLe (AD (AQ ys t) d (z.v s.r)) (St.den ⟨AJ (AJ s.t y u) d z,s.r⟩).t/\
   ((∃e∈o.after,Region.binds .any e=true/\AF ops e.on=some y)\/(dX E y=true/\Kh o y=true)):=by
  intro B U F H h;obtain⟨hb,h⟩:=A1 h;simp only[cond_true,Option.some.injEq,Prod.mk.injEq]at h;obtain⟨rfl,rfl,rfl,rfl⟩:=h;simp only[bAE,not_eq_true']at hb;obtain⟨⟨⟨h1,h2⟩,h3⟩,h4⟩:=hb
  exact⟨H,blE h2,h3,[(B,.put (hdV ((s.t B).v s.r)))],λp hp=>by
   rw[mem_singleton.1 hp];show(mvB ops o B||mvR ops o B||mvC ops o B)=true;refine or_eq_true _ _▸ .inl (show(mvB ops o B||mvR ops o B)=true from ?_)
   rw[or_eq_true]at h4⊢;exact h4.imp id λh=>by rw[bAE]at h;exact h.2,.inl ⟨B,F,rfl,(own B h1).symm⟩,W _ (hdV ((s.t B).v s.r)) (λx=>kM B (.put (hdV ((s.t B).v s.r))) x) (.inl (hdS_v s.r (s.t B))),(by
   rw[or_eq_true]at h4;rcases h4 with h4|h4
   .exact .inl (edge B h4)
   .rw[bAE]at h4
    refine .inr ⟨h4.1,?_⟩;unfold Kh;rcases F with F|F<;>(rw[F];exact beq_refl _))⟩
 unfold mvF at h;split at h
 .rename_i B U F H
  exact J B U (.inl F) H h
 .rename_i B U F H
  exact J B U (.inr F) H h
 .rename_i B c U F H
  split at h
  case h_2=>cases h
  rename_i l hl;split at h
  case h_2=>cases h
  rename_i q hq;split at h
  case h_2=>cases h
  rename_i z' hz;obtain⟨hb,h⟩:=A1 h;simp only[cond_true,Option.some.injEq,Prod.mk.injEq]at h;obtain⟨rfl,rfl,rfl,rfl⟩:=h;simp only[bAE,not_eq_true']at hb;obtain⟨⟨⟨h1,h2⟩,h3⟩,h4⟩:=hb;obtain⟨hc,hq'⟩:=List.getElem?_eq_some_iff.1 hq
  -- the part's value
  have hzv:z'.v s.r=(if q.1 then Ag (q.2.map (Cl.v s.r))else(q.2.map (Cl.v s.r)).getD 0 .dead):=by
   obtain⟨b,m⟩:=q;cases b with
   |true=>cases hz;rfl
   |false=>cases m with
    |nil=>cases hz
    |cons a m=>cases hz;rfl
  obtain⟨L,hL⟩:∃L:List V,L=l.map λp=>if p.1 then Ag (p.2.map (Cl.v s.r))else(p.2.map (Cl.v s.r)).getD 0 .dead:=⟨_,rfl⟩
  have hLc:L.getD c .dead=z'.v s.r:=by
   rw[hL,hzv];simp[List.getElem?_map,hq]
  have hcL:c<L.length:=by rw[hL];simpa using hc
  have O:s.den.t B=Dq L:=by
   show(s.t B).v s.r=_;rw[hl,hL];rfl
  have hown:(s.t B).own=true:=by
   have h5:AK (s.den.t B)=(s.t B).own:=Sl.own_v (s.t B);rw[<-h5,O];have h6:AK (z'.v s.r)=true:=by rw[Sl.own_v];exact h1
   show AK (V.many .tu L.length λk=>L.getD k .dead)=true
   simp only[AK];rw[any_eq_true];exact⟨c,List.mem_range.2 hcL,by rw[hLc];exact h6⟩
  have hty:=own B hown;refine⟨H,blE h2,h3,[(B,.part c)],λp hp=>by rw[mem_singleton.1 hp];exact h4,.inr ⟨B,c,L.length,λk=>L.getD k .dead,F,rfl,hty.trans O,hcL,hLc.symm⟩,W _ _ (λx=>kM B (.part c) x) (.inl ?_),?_⟩
  .rw[hty,O]
   show O5 c (V.many .tu L.length λk=>L.getD k .dead)=Dq ((l.set c (false,[])).map λp=>if p.1 then Ag (p.2.map (Cl.v s.r))else(p.2.map (Cl.v s.r)).getD 0 .dead)
   rw[List.map_set,<-hL];show V.many _ _ _=V.many _ (L.set c V.dead).length _;rw[List.length_set]
   congr 1
   funext k
   exact YO.symm
  .unfold exB at h4
   rw[bAE]at h4;exact .inl (HF h4.2)
 .cases h
theorem Vd{f:FuncId}{xs:Array Operand}(h:IV op=some (f,xs)):∃e,op=.call ⟨.value (.func f),xs,e⟩:=by
 unfold IV at h;split at h
 case h_2=>grind
 rename_i c;obtain⟨callee,args,e⟩:=c;split at h
 case h_2=>grind
 simp_all
theorem Wq{l:List Operand}(e:k<l.length)(u:i≠k)(h:l[i]? =some x):x∈CS k l:=by
 rcases Nat.lt_or_ge i k with hlt|hge
 .exact mem_of_getElem? (by rw[Pg hlt e];omega)
 .obtain⟨j,rfl⟩:∃j,i=j+1:=⟨i-1,by omega⟩
  exact mem_of_getElem? (i:=j) (by rw[Ph (by omega) e];grind)
theorem N1(hU:∀e∈Us,e.OK P){okf:Nat->Bool}{sl:Nat->Nat}{Al:Nat->Nat->Prop}(hal:∀z,sl z=z\/Al z (sl z))(ht:VLe t s.den.t)(h:My hh okf sl Us s o=some A){u:A.α}(hu:A.o=some u):
  ∃v r,V2 o.op=true/\LQ P hh.n s.den.σ Al o t [(A.y,.put v)] r/\VLe (I1 o.dst r (AQ [(A.y,.put v)] t)) (St.den ⟨AJ (AJ s.t A.y (A.u u)) A.d (A.z u),s.r⟩).t/\o.dst=some A.d/\A.y≠A.d/\A.y<hh.n/\∃f xs e z,IV o.op=some (f,xs)/\Kk Us f=some e/\xs.toList[e.S.k]? =some (.tmp z)/\sl z=A.y/\okf z=true:=by
 unfold My at h;split at h
 case h_2=>cases h
 rename_i f xs d H hd;split at h
 case h_2=>cases h
 rename_i e he;split at h
 case h_2=>cases h
 rename_i Y hk;split at h
 case h_2=>cases h
 rename_i t0 dd x hy;obtain⟨y,J⟩:∃y,sl Y=y:=⟨_,rfl⟩;simp only[J]at h hy;split at h
 case isFalse=>cases h
 rename_i hte;subst hte;generalize hB:(beq dd e.S.d&&blt d hh.n&&blt y hh.n&& !beq y d&&okf Y&&DF e.S.rs&&((CS e.S.k xs.toList).map s.ev).all uok&&(CS e.S.k xs.toList).all s.liveX)=B at h;cases B with
 |false=>cases h
 |true=>
 simp only[bAE,not_eq_true']at hB;obtain⟨⟨⟨⟨⟨⟨⟨h1,h2⟩,h3⟩,h4⟩,h6⟩,h7⟩,h8⟩,h9⟩:=hB;simp only[cond_true]at h;split at h
 case h_2=>cases h
 rename_i z hz;cases h;obtain⟨⟨O,F,hft⟩,hfe⟩:=UP hU he;have W:=H;obtain⟨ats,H⟩:=Vd H;have hdd:=bqE h1;have hyd:y≠d:=λe=>by rw[e,beq_refl]at h4;cases h4
 have hks:e.S.k<xs.toList.length:=(List.getElem?_eq_some_iff.1 hk).1;have hu:Wx (bif e.S.eat then true else Ade e.S.t x) (e.g z x) none=some u:=hu;obtain⟨hho,hu⟩:=A1 hu;have hu:e.g z x=some u:=hu;have U:0<e.S.d:=by
  unfold AdD.ok at F;simp only[bAE]at F;exact blE F.1.1
 have hnd:∃s sz n f,cV e.S.t e.S.d x=.nd s true sz n f:=by
  unfold AdD.ok at F;simp only[bAE]at F;exact treeND U F.2
 have hhold:LX (cV e.S.t e.S.d x)\/(bif e.S.eat then V.dead else cV e.S.t e.S.d u.2)=.dead:=by
  cases he:e.S.eat with
  |true=>exact .inr rfl
  |false=>
   rw[he]at hho;exact .inl (Add U hho)
 have hty:t y=cV e.S.t e.S.d x:=by
  have e1:s.den.t y=cV e.S.t e.S.d x:=by
   show(s.t y).v s.r=_;rw[hy,hdd];rfl
  rcases ht y with e2|⟨e2,_⟩
  .rw[e2,e1]
  .obtain⟨_,_,_,_,e3⟩:=hnd
   rw[e1,e3]at e2;cases e2
 obtain⟨k1,k2⟩:=Ab3 hks hz h8;have hc:=hft z x u hu;rw[hfe]at O hc;have hzy:Y=y\/Al Y y:=by
  rcases hal Y with h|h
  .exact .inl (h.symm.trans J)
  .rw[J]at h;exact .inr h
 have hlq:=Aa6 (Al:=Al) (P:=P) (N:=hh.n) (σ:=s.den.σ) (t:=t) H hd (blE h2) (blE h3) hyd O (by rw[<-getElem?_toList];exact hk) hzy (Sub.of_eq hty) hnd hhold (by simpa using k1) (λi x' hik hx=>by
  have hx:xs.toList[i]? =some x':=by rw[getElem?_toList];exact hx
  have hl:=aET.1 h9 x' (Wq hks hik hx);have hev:Ms.ev ⟨t,s.den.σ⟩ x'=s.den.ev x':=(ht.ev (σ:=s.den.σ) x').resolve_right λe=>Yt hl e.1
  rw[hev];exact k2 i x' hik hx) hc
 have e2:AQ [(y,.put (bif e.S.eat then .dead else cV e.S.t e.S.d u.2))] t=AD t y (bif e.S.eat then .dead else cV e.S.t e.S.d u.2):=by
  funext i
  unfold AQ AD;by_cases hi:i=y
  .subst hi
   rw[if_pos rfl];show Iq (if i=i then some (.put _)else none) _=_
   rw[if_pos rfl];rfl
  .rw[if_neg hi]
   show Iq (if y=i then some (.put _)else none) _=_
   rw[if_neg (Ne.symm hi)];rfl
 have e3:∀Z:Sl,(St.den ⟨AJ (AJ s.t y (bif e.S.eat then Sl.one .dead else .one (.c e.S.t e.S.d u.2))) d Z,s.r⟩).t=AD (AD s.den.t y (bif e.S.eat then .dead else cV e.S.t e.S.d u.2)) d (Z.v s.r):=by
  intro Z;show(λi=>(AJ (AJ s.t y _) d _ i).v s.r)=_
  rw[B3]
  congr 1
  show(λi=>(AJ s.t y _ i).v s.r)=_
  rw[B3]
  congr 1
  cases e.S.eat<;>rfl
 have e4:(MP true e.S.rs u.1).v s.r=P7 e.S.rs u.1:=by rw[Oi _ _ _ h7,Hz]
 have hfz:∀v:V,AK (Go.Ve.frz v)=false:=by
  intro v
  induction v with
  |many t n f ih=>show((range n).any λk=>AK (Go.Ve.frz (f k)))=false;rw[List.any_eq_false];intro k _;rw[ih k];simp
  |nd=>rfl
  |_=>rfl
 cases hf:hh.fz.contains d with
 |false=>
  refine⟨_,_,by rw[H];rfl,hlq,?_,hd,hyd,blE h3,f,xs,e,Y,W,he,hk,J,h6⟩
  show VLe _ (St.den ⟨AJ (AJ s.t y (bif e.S.eat then Sl.one .dead else .one (.c e.S.t e.S.d u.2))) d (bif false then AaI (MP true e.S.rs u.1)else MP true e.S.rs u.1),s.r⟩).t;rw[e3,hd,e2];show VLe (AD _ d _) (AD _ d ((MP true e.S.rs u.1).v s.r));rw[e4];exact VLe.upd (ht.upd (.inl rfl)) (.inl rfl)
 |true=>
  refine⟨_,_,by rw[H];rfl,hlq.frzR hd (blE h2),?_,hd,hyd,blE h3,f,xs,e,Y,W,he,hk,J,h6⟩
  show VLe _ (St.den ⟨AJ (AJ s.t y (bif e.S.eat then Sl.one .dead else .one (.c e.S.t e.S.d u.2))) d (bif true then AaI (MP true e.S.rs u.1)else MP true e.S.rs u.1),s.r⟩).t;rw[e3,hd,e2];show VLe (AD _ d _) (AD _ d ((AaI (MP true e.S.rs u.1)).v s.r));refine VLe.upd (ht.upd (.inl rfl)) ?_;unfold AaI;cases hz2:(MP true e.S.rs u.1).frz with
  |none=>exact .inr ⟨rfl,hfz _⟩
  |some z2=>
   left;show _=z2.v s.r;rw[<-e4];exact Sl.frz_v hz2
theorem ZN(Y:∀e∈Us,e.OK P){ops:Array Oper}(U:VLe t s.den.t){J:Nat->Bool}(h:Abg hh J Us ops s o=some A){u:A.α}(O:A.o=some u):
  ∃ys r,(∀p∈ys,JO ops o p=true\/Vr hh ops o p=true)/\V2 o.op=true/\LQ P hh.n s.den.σ (AlP hh ops o) o t ys r/\VLe (I1 o.dst r (AQ ys t)) (St.den ⟨AJ (AJ s.t A.y (A.u u)) A.d (A.z u),s.r⟩).t/\o.dst=some A.d/\∃f xs e z,IV o.op=some (f,xs)/\Kk Us f=some e/\xs.toList[e.S.k]? =some (.tmp z)/\Xv hh ops o z=A.y/\okU hh J ops o z=true:=by
 obtain⟨v,r,h1,h2,h3,Z,_,_,f,xs,e,z,g1,g2,g3,B,F⟩:=N1 Y (λz=>by
  unfold Xv;cases H:alS hh ops o z with
  |none=>exact .inl rfl
  |some y=>exact .inr (alS_v H)) U h O
 refine⟨_,r,λp W=>?_,h1,h2,h3,Z,f,xs,e,z,g1,g2,g3,B,F⟩
 rw[mem_singleton.1 W];unfold okU at F;unfold Xv at B;cases H:alS hh ops o z with
 |none=>
  rw[H]at B F;have B:z=A.y:=B;left;show(mvB ops o A.y||mvR ops o A.y||mvC ops o A.y)=true
  grind
 |some y=>
  rw[H]at B F;have B:y=A.y:=B;rw[B]at F;exact .inr F
theorem lqF_v(hE:EOK P E){ops:Array Oper}{pu ds:Option (Nat×Sl)}(ht:VLe t s.den.t)(h:lqF E ops s o=some (js,pu,ds))(hmo:o∈ops.toList):
  ∃ys r,(∀p∈ys,JO ops o p=true)/\V2 o.op=true/\LQ P E.h.n s.den.σ (AlP E.h ops o) o t ys r/\VLe (I1 o.dst r (AQ ys t)) (St.den ⟨Abk ds (Abk pu (CU js s.t)),s.r⟩).t/\
   (∀i,Au ops.toList i=true->yB E ops i=false->o.dst≠some i->Abk ds (Abk pu (CU js s.t)) i=s.t i):=by
 have own:∀y,AK (t y)=(s.t y).own:=by
  intro y;have h5:AK (s.den.t y)=(s.t y).own:=Sl.own_v (s.t y);rcases ht y with e|⟨e1,e2⟩
  .rw[e];exact h5
  .rw[e1]at h5;rw[e2,<-h5];rfl
 have hev:∀x,s.den.ev x≠.dead->Ms.ev ⟨t,s.den.σ⟩ x=s.den.ev x:=λx Z=>((ht.ev (σ:=s.den.σ) x).resolve_right λe=>Z e.1)
 have edge:∀y,mvB ops o y=true->∃e∈o.after,Region.binds .any e=true/\AF ops e.on=some y:=by
  intro y F;unfold mvB at F;rw[bAE]at F;exact HF F.2
 have notW:∀y i,Au ops.toList i=true->mvB ops o y=true->i≠y:=by
  rintro y i hn F rfl
  obtain⟨e,_,_,hed⟩:=edge i F;unfold AF at hed;rw[bind_eq_some_iff]at hed;obtain⟨ok,hok,hokd⟩:=hed;have hmem:ok∈ops.toList:=by
   rw[<-getElem?_toList]at hok;exact mem_of_getElem? hok
  have:Au [ok] i=true:=by
   unfold Au at hn⊢;rw[aET]at hn⊢;exact λo ho=>hn o (by rw[mem_singleton.1 ho];exact hmem)
  exact(AZ this).1 hokd
 have W:∀(js:List Nat) i,(∀y∈js,mvB ops o y=true)->Au ops.toList i=true->CU js s.t i=s.t i:=by
  intro js i hj hn;unfold CU;have:js.contains i=false:=by
   cases hc:js.contains i with
   |false=>rfl
   |true=>exact absurd rfl (notW i i hn (hj i (by simpa using hc)))
  rw[this];rfl
 have kill:∀(js:List Nat) (xs:List Operand),xs.map (IH t)=xs.map (LP s)->js=jsO (xs.map (LP s))->VLe (AQ ((Bf t xs).map λy=>(y,.all)) t) (λi=>(CU js s.t i).v s.r):=by
  intro js xs Z hj i;rw[Dl,CI Z,<-hj];show le1 _ ((bif js.contains i then Sl.one Cl.dead else s.t i).v s.r);by_cases hi:i∈js
  .have:js.contains i=true:=by simpa using hi
   rw[if_pos hi,this];exact .inl rfl
  .have:js.contains i=false:=by simpa using hi
   rw[if_neg hi,this];exact ht i
 unfold lqF at h;split at h
 case h_4=>cases h
 .-- a struct
  rename_i ty ps d J B;obtain⟨xs,H⟩:∃xs,xs=ps.toList.map (·.2):=⟨_,rfl⟩
  rw[<-H]at h;have u:=UE own xs;obtain⟨hb,h⟩:=A1 h;simp only[bAE]at hb;obtain⟨⟨Y,h2⟩,h3⟩:=hb;have h3:d<E.h.n:=blE h3
  have U:∀y∈jsO (xs.map (LP s)),mvB ops o y=true:=by
   intro y F;split at h2
   .cases h2
   .rename_i a l e;rw[e]at F;exact aET.1 h2 y F
  split at h
  case h_2=>cases h
  rename_i i hi;obtain⟨hag,h⟩:=A1 h;split at h
  case h_2=>cases h
  rename_i l hl;cases h;obtain⟨k1,k2⟩:=MD (ev:=Ms.ev ⟨t,s.den.σ⟩) _ _ _ (λp _=>hev p.2) hl
  rw[JG]at k2;have hbi:=hE.Θ.bd hi;rw[hag]at hbi;obtain⟨l',hl'⟩:∃l',l'=(bif E.h.fz.contains (2000000+d)then V1 (Aq i.ty 0 i.ty.dflt) l else l):=⟨_,rfl⟩
  have O:Sub (Ag (l.map (Cl.v s.r))) (Ag (l'.map (Cl.v s.r))):=by
   rw[hl'];cases E.h.fz.contains (2000000+d)with
   |false=>exact Sub.refl _
   |true=>
    show Sub (V.many _ _ _) (V.many _ _ _);refine⟨λk=>((V1 (Aq i.ty 0 i.ty.dflt) l).map (Cl.v s.r)).getD k .dead,by simp[M7],λk _=>Yf s.r _ _ k⟩
  rw[<-hl'];refine⟨_,_,λp hp=>?_,by rw[J];rfl,(Aa8 (Al:=AlP E.h ops o) J B h3 hbi (by rw[<-H,u];exact Y) k1 k2).sub (λ_ h=>h) (λ_ _=>Sub.refl _) O,?_,λi hn Z hd=>?_⟩
  .rw[<-H,CI u]at hp
   obtain⟨y,F,rfl⟩:=mem_map.1 hp;exact U y F
  .rw[B,<-H]
   show VLe (AD _ d (Ag (l'.map (Cl.v s.r)))) (λi=>(AJ (CU _ s.t) d (.agg l') i).v s.r)
   rw[B3];exact(kill _ xs u rfl).upd (.inl rfl)
  .show AJ (CU _ s.t) d _ i=_
   unfold AJ;rw[BK λe=>hd (by rw[B,e])]
   exact W _ i U hn
 .-- a slice's literal
  rename_i ty n ps d J B;obtain⟨xs,H⟩:∃xs,xs=ps.toList.map (·.2):=⟨_,rfl⟩
  rw[<-H]at h;have u:=UE own xs;obtain⟨hb,h⟩:=A1 h;simp only[bAE]at hb;obtain⟨⟨Y,h2⟩,h3⟩:=hb;have h3:d<E.h.n:=blE h3
  have U:∀y∈jsO (xs.map (LP s)),mvB ops o y=true:=by
   intro y F;split at h2
   .cases h2
   .rename_i a l e;rw[e]at F;exact aET.1 h2 y F
  split at h
  case h_2=>cases h
  rename_i j hj;obtain⟨e,hsl,_⟩:=Hd hE.Θ hj;obtain⟨hb2,h⟩:=A1 h;simp only[bAE]at hb2;have hw:=Ml hb2.1;have hnw:=blE hb2.2;split at h
  case h_2=>cases h
  rename_i l hl;obtain⟨hk,h⟩:=A1 h;split at h
  case h_2=>cases h
  rename_i zs hzs;cases h;obtain⟨k1,k2⟩:=MD (ev:=Ms.ev ⟨t,s.den.σ⟩) _ _ _ (λp _=>hev p.2) hl
  rw[XI s.r j.ty n hw]at k2;obtain⟨p1,p2,p3⟩:=Qk s.r n _ zs hzs
  have O:Sub (.nd true true j.ty.w n λi k=>(l.map (Cl.v s.r)).getD (i*j.ty.w+k) .dead) (cV (.sl j.ty) (j.sd+1) zs):=by
   show Sub _ (V.nd true true j.ty.w zs.length _);rw[p1];refine⟨_,rfl,λi k hi hk=>?_⟩
   have:=p3 i k hi hk;rw[List.map_map]at this;have e:(Cl.v s.r∘fit j.sd)=Cl.v s.r:=funext λy=>(fitO_v _ s.r y).1
   rw[e]at this;exact this
  refine⟨_,_,λp hp=>?_,by rw[J];rfl,(NO (Al:=AlP E.h ops o) J B h3 hsl hw hnw (by rw[<-H,u];exact Y) k1 k2 ?_).sub (λ_ h=>h) (λ_ _=>Sub.refl _) O,?_,λi hn Z hd=>?_⟩
  .rw[<-H,CI u]at hp
   obtain⟨y,F,rfl⟩:=mem_map.1 hp;exact U y F
  .intro v hv
   obtain⟨y,F,rfl⟩:=mem_map.1 hv;exact(YA (aET.1 hk y F)).1
  .rw[B,<-H]
   show VLe (AD _ d _) (λi=>(AJ (CU _ s.t) d _ i).v s.r)
   rw[B3];exact(kill _ xs u rfl).upd (.inl rfl)
  .show AJ (CU _ s.t) d _ i=_
   unfold AJ;rw[BK λe=>hd (by rw[B,e])]
   exact W _ i U hn
 .-- a store
  rename_i ty p x J B;split at h
  case h_2=>cases h
  rename_i lp l i hp hl hi;obtain⟨hb,h⟩:=A1 h;simp only[cond_true,Option.some.injEq,Prod.mk.injEq]at h;obtain⟨rfl,rfl,rfl⟩:=h;simp only[bAE,or_eq_true]at hb;obtain⟨⟨⟨⟨⟨⟨Y,h2⟩,h3⟩,h4⟩,h5⟩,h6⟩,h7⟩:=hb;have h2:p<E.h.n:=blE h2;have h3:=bqE h3;have h4:=bqE h4;obtain⟨y,F,hyl⟩:=bind_eq_some_iff.1 hl;obtain⟨g1,g2,g3⟩:=Vc (r:=s.r) hyl;have Z:Ms.ev ⟨t,s.den.σ⟩ x=y.v s.r:=by
   rw[<-Bd F];refine hev x ?_;rw[Bd F];intro e;rw[e]at g1;cases g1
  have htp:t p=A8 true (lp.map Cl.v0):=by
   have e:s.den.t p=A8 true (lp.map Cl.v0):=newC_v hp s.r;rcases ht p with h|⟨h,_⟩
   .rw[h,e]
   .rw[e]at h;cases h
  have hxp:x≠.tmp p:=by
   rintro rfl
   have h7:(!beq p p)=true:=h7;rw[beq_refl]at h7;cases h7
  have u:=UE own [x];have hlv:l.map (Cl.v s.r)=l.map Cl.v0:=List.map_congr_left λc hc=>(YA (aET.1 h5 c hc)).2
  have U:∀y∈jsO ([x].map (LP s)),mvB ops o y=true:=aET.1 h6;have hti:=hE.Θ.ty hi
  have hlq:=Aa7 (Al:=AlP E.h ops o) (P:=P) (N:=E.h.n) (σ:=s.den.σ) (t:=t) J B hti htp (by simpa using h3) h2 hxp (by rw[Z];exact g1) (by rw[Z,g2];simpa using h4)
   (by
    rw[Z,g2];intro v hv;obtain⟨c,hc,rfl⟩:=mem_map.1 hv;exact(YA (aET.1 h5 c hc)).1)
   (by
    rw[Z,g2];intro v hv;obtain⟨c,hc,rfl⟩:=mem_map.1 hv;exact g3 c hc)
  rw[Z,g2,hlv]at hlq;have hnp:p∉Bf t [x]:=by
   intro hm;rw[CI u]at hm;cases x with
   |tmp z=>
    have hz:z≠p:=λe=>hxp (by rw[e])
    have hm:p∈jsO [bif(s.t z).own then some z else none]:=hm;cases ho:(s.t z).own with
    |true=>rw[ho]at hm;exact hz (mem_singleton.1 hm).symm
    |false=>rw[ho]at hm;cases hm
   |const v=>cases hm
   |global g=>cases hm
   |func f=>cases hm
  have O:Sub (A8 true (l.map Cl.v0)) (A8 true ((V1 lp l).map Cl.v0)):=by
   unfold A8;have e:((V1 lp l).map Cl.v0).length=(l.map Cl.v0).length:=by simp[M7]
   rw[e];refine⟨_,rfl,λi k hi hk=>?_⟩
   obtain rfl:i=0:=by omega
   exact Abq lp l k
  refine⟨(p,.put (A8 true ((V1 lp l).map Cl.v0)))::(Bf t [x]).map λy=>(y,.all),.dead,λq hq=>?_,by rw[J];rfl,hlq.sub (λz hz=>?_) (λz v=>?_) (Sub.refl _),?_,λi hn Z hd=>?_⟩
  .rcases mem_cons.1 hq with rfl|hq
   .show(mvB ops o p||mvR ops o p||mvC ops o p)=true
    rcases Y with Y|Y
    .rw[Y];rfl
    .rw[Y.2,Bool.or_true];rfl
   .rw[CI u]at hq
    obtain⟨y,F,rfl⟩:=mem_map.1 hq;exact U y F
  .by_cases hzp:z=p
   .subst hzp;rw[H5];simp
   .rw[H4 hzp]at hz⊢;exact hz
  .by_cases hz:z=p
   .subst hz;rw[H5,H5];exact O
   .rw[H4 hz,H4 hz];exact Sub.refl _
  .rw[B]
   show VLe (AQ _ t) (λi=>(AJ (CU _ s.t) p (.new (V1 lp l)) i).v s.r)
   rw[B3];have hk:=kill _ [x] u rfl;intro i;unfold AD;by_cases hi:i=p
   .subst hi
    rw[if_pos rfl];unfold AQ;rw[H5];exact .inl rfl
   .rw[if_neg hi]
    have:=hk i;unfold AQ at this⊢;rw[H4 hi];exact this
  .show AJ (CU _ s.t) p _ i=_
   unfold AJ;have hip:i≠p:=by
    rcases Y with Y|Y
    .exact notW p i hn Y
    .rintro rfl
     have:yB E ops i=true:=by
      unfold yB;refine any_eq_true.2 ⟨o,hmo,?_⟩;have e:stB o i=true:=by unfold stB;rw[J];exact beq_refl i
      rw[Y.1,e,Bool.or_true];rfl
     rw[Z]at this;cases this
   rw[BK hip];exact W _ i U hn
theorem own_le(B:VLe t s.den.t)(y:Nat):AK (t y)=(s.t y).own:=by
 have u:AK (s.den.t y)=(s.t y).own:=Sl.own_v (s.t y);rcases B y with e|⟨H,F⟩
 .grind
 .rw[H]at u;rw[F,<-u];rfl
theorem AcT{ops:Array Oper}{y:Nat}(O:Au ops.toList i=true)(H:mvB ops o y=true):i≠y:=by
 rintro rfl
 unfold mvB at H;rw[bAE]at H;obtain⟨e,_,_,u⟩:=HF H.2;unfold AF at u;rw[bind_eq_some_iff]at u;obtain⟨ok,F,B⟩:=u;have J:=by
  rw[<-getElem?_toList]at F;exact mem_of_getElem? F
 have:Au [ok] i=true:=by
  unfold Au at O⊢
  grind
 exact(AZ this).1 B
theorem Adw{ops:Array Oper}(hj:∀y∈js,mvB ops o y=true)(e:Au ops.toList i=true):CU js s.t i=s.t i:=by
 unfold CU;have:js.contains i=false:=by
  cases u:js.contains i with
  |false=>rfl
  |true=>exact absurd rfl (AcT e (hj i (by grind)))
 grind
theorem Adv(u:VLe t s.den.t){xs:List Operand}(e:xs.map (IH t)=xs.map (LP s))(hj:js=jsO (xs.map (LP s))):VLe (AQ ((Bf t xs).map λy=>(y,.all)) t) (λi=>(CU js s.t i).v s.r):=by
 intro i;rw[Dl,CI e,<-hj];show le1 _ ((bif js.contains i then Sl.one Cl.dead else s.t i).v s.r);by_cases hi:i∈js
 .have:js.contains i=true:=by grind
  rw[if_pos hi,this];exact .inl rfl
 .have:js.contains i=false:=by grind
  rw[if_neg hi,this];exact u i
def onlyS(s:St)(y:Operand):St:=⟨λi=>match y with
 |.tmp z=>bif beq i z then s.t i else .one .dead
 |_=>.one .dead,s.r⟩
theorem PH{N:Nat}(ht:VLe t s.den.t){x y:Operand}{ys:List ty.T}(hyo:y∈op.operands)(h:WM s ty (s.ev y)=some (d,ys)):
  ∀(C:Ctx) (ρ:Nat->Value) (F:Nat->Nat->Prop) (a:Act) (w:World) (D:Nat->Prop) (T:Nat->Nat->Prop) (t':Nat->V),(∀z∈HA op,t' z=t z)->PR C N s.den.σ ρ F t' a w D T->
   ∃Fy,WB D w ty.w ys.length (λi k=>(tyV ty d (ys.getD i ty.dflt)).getD k .dead) (a.eval y) Fy/\(∀i k c,i<ys.length->k<ty.w->Fy i k c->opF t' T [x,y] 1 c)/\
    ∀i k i' k' c,i<ys.length->k<ty.w->i'<ys.length->k'<ty.w->(i≠i'\/k≠k')->Fy i k c->¬Fy i' k' c:=by
 intro C ρ F a w D T t' hag hp;have Z:∀v,s.ev y=some v->v.v s.r≠.dead->Ms.ev ⟨t',s.den.σ⟩ y=v.v s.r:=by
  intro v hv U;rw[<-Bd hv]at U⊢;have h1:Ms.ev ⟨t,s.den.σ⟩ y=s.den.ev y:=((ht.ev (σ:=s.den.σ) y).resolve_right λe=>U e.1)
  rw[<-h1];cases y with
  |tmp z=>exact hag z (Dz hyo)
  |const v=>rfl
  |global g=>rfl
  |func f=>rfl
 unfold WM at h;split at h
 .rename_i t1 d1 ys1 u
  split at h
  case isFalse=>cases h
  rename_i e;subst e;obtain⟨hno,h⟩:=A1 h;cases h;have hv:=Z _ u (by intro e;cases e)
  have hr:=hp.opF_rel (xs:=[x,y]) (j:=1) (x:=y) rfl;rw[hv]at hr;exact XS (R:=Ai s.den.σ ρ w) hr λi k hi hk=>Dv _ _ _ k hno hk
 .rename_i U
  split at h
  case h_2=>cases h
  rename_i d1 ys1 u;cases h
  -- the value's slot owns nothing
  obtain⟨H,B⟩:∃H,H=onlyS s y:=⟨_,rfl⟩;have W:H.den.σ=s.den.σ:=by rw[B];rfl
  have hs2:H.ev y=s.ev y:=by
   rw[B];cases y with
   |tmp z=>
    show some (bif beq z z then s.t z else .one .dead)=some (s.t z);rw[beq_refl];rfl
   |const v=>rfl
   |global g=>rfl
   |func f=>rfl
  have hdn:∀z,y=.tmp z->(t' z=s.den.t z/\(s.t z).own=false/\z<N):=by
   intro z hz;subst hz;have u:Wz s ty s.r.length (some (s.t z))=some (d,ys,[]):=u
   have hnotown:(s.t z).own=false:=by
    have u:=(Y8 u).1;unfold Wy at u;split at u
    case h_4=>cases u
    .rename_i e;rw[Option.some.inj e];rfl
    .rename_i e;rw[Option.some.inj e];rfl
    .rename_i e;rw[Option.some.inj e];rfl
   have J:(s.t z).v s.r≠.dead:=by
    have u:=(Y8 u).1;unfold Wy at u;split at u
    case h_4=>cases u
    .rename_i e;rw[Option.some.inj e];intro e';cases e'
    .rename_i e;rw[Option.some.inj e];intro e';cases e'
    .rename_i e;rw[Option.some.inj e];intro e';cases e'
   have e1:t' z=s.den.t z:=Z (s.t z) rfl J;refine⟨e1,hnotown,Nat.lt_of_not_le λhz=>?_⟩
   have:=hp.dd z hz;rw[e1]at this;exact J this
  have O:∀i,H.den.t i=.dead\/(H.den.t i=t' i/\AK (t' i)=false):=by
   intro i;rw[B];cases y with
   |tmp z=>
    show(bif beq i z then s.t i else .one .dead).v s.r=.dead\/_;by_cases Y:i=z
    .subst Y
     obtain⟨e1,e2,_⟩:=hdn i rfl;right;refine⟨?_,?_⟩
     .show(bif beq i i then s.t i else .one .dead).v s.r=_
      rw[beq_refl,e1];rfl
     .rw[e1]
      have h5:AK (s.den.t i)=(s.t i).own:=Sl.own_v (s.t i);rw[h5];exact e2
    .rw[BK Y];exact .inl rfl
   |const v=>exact .inl rfl
   |global g=>exact .inl rfl
   |func f=>exact .inl rfl
  have hcr:=hp.cr (t2:=H.den.t) O;have hdd:∀i,N<=i->H.den.t i=.dead:=by
   intro i hi;rcases O i with h|⟨h,_⟩
   .exact h
   .rw[h];exact hp.dd i hi
  have hy2:Wz H ty s.r.length (H.ev y)=some (d,ys,[]):=by rw[hs2,B];exact u
  rw[<-W]at hcr;obtain⟨⟨Fy,h1,h2,h3⟩,_⟩:=IX (s:=H) hcr hdd hy2;exact⟨Fy,h1,λi k c hi hk hF=>(by obtain⟨j,hj,_⟩:=h2 i k c hi hk hF;cases hj),h3⟩
theorem Zz(W:VLe t s.den.t){Y J:Nat}{xs:List ty.T}(u:WN ty Y (s.ev x)=some (J,xs)):
  Sub (Ms.ev ⟨t,s.den.σ⟩ x) (.nd true true ty.w xs.length λi k=>(tyV ty J (xs.getD i ty.dflt)).getD k .dead):=by
 have F:∀v,s.ev x=some v->v.v s.r≠.dead->Ms.ev ⟨t,s.den.σ⟩ x=v.v s.r:=by
  intro v U B;rw[<-Bd U]at B⊢;exact(W.ev x).resolve_right λe=>B e.1
 unfold WN at u;split at u
 .rename_i t1 Z O H
  split at u
  case isFalse=>grind
  rename_i e;subst e;cases u;rw[F _ H (by intro e;cases e)]
  exact Sub.refl _
 .rename_i H
  cases u;rw[F _ H (by intro e;cases e)]
  exact .inr ⟨rfl,_,_,_,rfl⟩
 grind
theorem appO_v(hE:EOK P E){ops:Array Oper}{A:AO}(ht:VLe t s.den.t)(h:appO E ops s o=some A)(hA:A.p):
  ∃ys r,(∀p∈ys,JO ops o p=true)/\V2 o.op=true/\LQ P E.h.n s.den.σ (AlP E.h ops o) o t ys r/\VLe (I1 o.dst r (AQ ys t)) (St.den ⟨AJ (CU A.js s.t) A.d A.y,s.r⟩).t/\
   (∀i,Au ops.toList i=true->o.dst≠some i->AJ (CU A.js s.t) A.d A.y i=s.t i):=by
 unfold appO at h;split at h
 case h_2=>cases h
 rename_i ty x y d F u;have F:=AdC F;split at h
 case h_2=>cases h
 rename_i j hj;obtain⟨e,hsl,_⟩:=Hd hE.Θ hj;have H:=UE (own_le ht) [x,y];obtain⟨hb,h⟩:=A1 h;simp only[bAE]at hb;obtain⟨⟨⟨⟨h1,h2⟩,h3⟩,h4⟩,h5⟩:=hb;have h3:d<E.h.n:=blE h3;have Y:=Ml h4;have hw:=Ml h5
 have U:∀O∈jsO ([x,y].map (LP s)),mvB ops o O=true:=by
  intro O hy;split at h2
  .cases h2
  .rename_i a l e;rw[e]at hy;exact aET.1 h2 O hy
 split at h
 case h_2=>cases h
 rename_i d' ys hys;split at h
 case h_2=>cases h
 rename_i dx xs hxs;obtain⟨hdk,h⟩:=A1 h;cases h;have hA:xs.length+ys.length<=O0 j.bytes:=hA
 have hb:(xs.length+ys.length)*j.bytes<=140737488355328:=by
  rw[Nat.mul_comm];exact(Nat.mul_comm _ _▸(Nat.le_div_iff_mul_le Y).1 hA)
 have h63:xs.length+ys.length<=maxLen:=by
  have:xs.length+ys.length<=(xs.length+ys.length)*j.bytes:=Nat.le_mul_of_pos_right _ Y;simp only[maxLen];omega
 have hx:=Zz ht hxs;have ee:tyV j.ty d'=tyV j.ty dx:=funext λz=>Da _ _ _ z (KH hdk)
 have B:=PH (N:=E.h.n) (x:=x) ht (op:=o.op) (by rw[F];simp[Op.operands,Call.operands]) hys
 rw[ee]at B;have J:=Zk (Al:=AlP E.h ops o) (P:=P) (N:=E.h.n) (σ:=s.den.σ) (t:=t) F u h3 hsl hw hx (by rw[H];exact h1) B h63 hb
 have J:=J.sub (λ_ h=>h) (λ_ _=>Sub.refl _) (NC rfl rfl (λ_ _ _=>rfl) (λ_ _ _=>rfl))
 dsimp only
 generalize Z:(bif E.h.fz.contains d then AaI (Sl.one (.c (.sl j.ty) (dx+1) (Adz xs ys)))else .one (.c (.sl j.ty) (dx+1) (Adz xs ys)))=z
 have W:∃r,LQ P E.h.n s.den.σ (AlP E.h ops o) o t ((Bf t [x,y]).map λy=>(y,.all)) r/\le1 r (z.v s.r):=by
  cases hf:E.h.fz.contains d with
  |false=>rw[hf]at Z;subst Z;exact⟨_,J,.inl rfl⟩
  |true=>rw[hf]at Z;subst Z;exact⟨_,J.frzR u h3,Adl (.one (.c (.sl j.ty) (dx+1) (Adz xs ys))) s.r⟩
 obtain⟨r,hlr,hle⟩:=W;refine⟨_,r,λp hp=>?_,by rw[F];rfl,hlr,?_,λi hn hd=>?_⟩
 .rw[CI H]at hp
  obtain⟨O,hy,rfl⟩:=mem_map.1 hp;exact U O hy
 .rw[u]
  show VLe (AD _ d _) (λi=>(AJ (CU _ s.t) d _ i).v s.r)
  rw[B3];exact(Adv ht H rfl).upd hle
 .show AJ (CU _ s.t) d _ i=_
  unfold AJ;rw[BK λe=>hd (by rw[u,e])]
  exact Adw U hn
theorem DY{l:List Oper}(h:∀o∈g,o∈l)(e:Au l i=true):Au g i=true:=by
 unfold Au at e⊢
 grind
theorem Ac5(h:le1 v v'):AK v=AK v':=by
 rcases h with e|⟨B,u⟩
 .grind
 .rw[u,B];rfl
theorem AcR(h:V3 s x=true):AK (s.den.ev x)=false:=by
 unfold V3 at h;split at h
 .rename_i y e
  rw[Bd e];have u:AK (y.v s.r)=y.own:=Sl.own_v y
  grind
 grind
theorem OY:∀{ρ:Asm}{c:Nat}{v:Bool},Aan ρ c=some v->∃j,(j,c,v)∈ρ
 |[],_,_,h=>by cases h
 |(i,d,u)::ρ,c,v,h=>by
  unfold Aan at h;cases e:beq d c with
  |true=>
   simp_all
  |false=>
   rw[e]at h;obtain⟨j,hj⟩:=OY h
   grind
theorem Kl:∀{ρ:Asm}{j:Nat}{v:Bool},Aao ρ j=some v->∃d,(j,d,v)∈ρ
 |[],_,_,h=>by cases h
 |(i,d,u)::ρ,j,v,h=>by
  unfold Aao at h;cases e:beq i j with
  |true=>
   simp_all
  |false=>
   rw[e]at h;obtain⟨B,hd⟩:=Kl h
   grind
def Hg(ops:Array Oper)(ρ:Asm)(S:Nat->V):Prop:=∀x∈ρ,(ops[x.1]?).bind (·.dst)=some x.2.1/\S x.2.1=.c (.bool x.2.2)
theorem Ka{ops:Array Oper}{ρ:Asm}{v:Bool}(O:VLe t s.den.t)(F:Hg ops ρ s.den.t)(h:ON ρ s op=some v)(hK:K (.c (.bool v))):Oq P s.den.σ (Ms.ev ⟨t,s.den.σ⟩) op K:=by
 unfold ON at h;split at h
 case h_2=>cases h
 rename_i c x y;cases B:(V3 s x&&V3 s y)with
 |false=>rw[B]at h;cases h
 |true=>
 rw[B]at h;rw[bAE]at B;simp only[cond_true]at h;split at h
 case h_2=>cases h
 rename_i u Z;obtain⟨j,hj⟩:=OY Z;obtain⟨_,W⟩:=F _ hj;have J:t c=.c (.bool u):=by
  rcases O c with e|e
  .rw[e];exact W
  .rw[W]at e;cases e.1
 have ev:∀x v,s.den.ev x=.c (.bool v)->Ms.ev ⟨t,s.den.σ⟩ x=.c (.bool v):=λx v H=>by
  rcases O.ev (σ:=s.den.σ) x with e|e
  .rw[e];exact H
  simp_all
 have U:=λx H=>(Ac5 (O.ev (σ:=s.den.σ) x)).trans (AcR H)
 have Y:=valB_v h;show XW (t c) (Ms.ev ⟨t,s.den.σ⟩ x) (Ms.ev ⟨t,s.den.σ⟩ y) K;rw[J];refine⟨U x B.1,U y B.2,λe=>?_,λe=>?_⟩
 .subst e
  rw[ev x v Y];exact hK
 grind
theorem Aby(h:isUd (s.t d)=true):s.den.t d=udV:=by
 show(s.t d).v s.r=_;unfold isUd at h;split at h
 .rename_i e;rw[e];rfl
 grind
theorem AcH{d:Option Nat}(B:VLe t s.den.t)(h:H1 E.h s d=some s'):s'.r=s.r/\(∀e,d=some e->e<E.h.n)/\(∀i,d≠some i->s'.t i=s.t i/\K7 t d i=t i)/\VLe (K7 t d) s'.den.t/\∀e,d=some e->AK (K7 t d e)=false:=by
 unfold H1 at h;split at h
 .rename_i d
  cases F:blt d E.h.n with
  |false=>grind
  |true=>
   rw[F]at h;cases h;refine⟨rfl,λe u=>by simp_all,λi hi=>⟨?_,if_neg λe=>hi (by grind)⟩,?_,λe u=>?_⟩
   .show AJ s.t d _ i=_
    unfold AJ;rw[BK λe=>hi (by grind)];rfl
   .show VLe (AD t d udV) (λi=>(AJ s.t d (.tup []) i).v s.r)
    rw[B3];exact B.upd (.inl rfl)
   .cases u
    show AK (AD t d udV d)=false;unfold AD;rw[if_pos rfl];rfl
 .cases h
  exact⟨rfl,(λe u=>by grind),(λ_ _=>⟨rfl,rfl⟩),B,λe u=>by grind⟩
theorem setB_v{d:Option Nat}{v:Bool}{K:(Nat->V)->Prop}(B:VLe t s.den.t)(h:setB E.h s d v=some s')(H:∀t',s'.r=s.r->(∀i,d≠some i->s'.t i=s.t i/\t' i=t i)->VLe t' s'.den.t->(∀e,d=some e->AK (t' e)=false)->K t'):QK E.h d t K (.c (.bool v)):=by
 unfold setB at h;split at h
 case h_2=>grind
 rename_i d;cases u:(blt d E.h.n&& !E.h.fz.contains d)with
 |false=>grind
 |true=>
 rw[u]at h;rw[bAE,not_eq_true']at u;cases h;refine⟨blE u.1,?_⟩;simp only[u.2,if_false];refine H _ rfl (λi hi=>⟨?_,if_neg λe=>hi (by grind)⟩) ?_ λe F=>?_
 .show AJ s.t d _ i=_
  unfold AJ;rw[BK λe=>hi (by grind)];rfl
 .show VLe (AD t d _) (λi=>(AJ s.t d (.one (.c .bool 0 v)) i).v s.r)
  rw[B3];exact B.upd (.inl rfl)
 .cases F
  unfold AD;rw[if_pos rfl];rfl
variable (hE:EOK P E)
include hE
theorem stepq{R:Type}{s:St}{o:Oper}{f:Sl->Option St}{K:St->Option R}{z:R}{t:Nat->V}{Kt:(Nat->V)->Prop}(J:VLe t s.den.t)(h:(Ab5 E s o.type o.op λy=>match f y with
   |some s'=>K s'
   |none=>none)=some z) (hf:∀y s',f y=some s'->s.putX true E.h o.dst y=some s')
  (hK:∀s' t' y,s'.r=s.r->(∀i,o.dst≠some i->s'.t i=s.t i/\t' i=t i)->VLe t' s'.den.t->f y=some s'->(∀e,o.dst=some e->(y.own&& !fzD E.h o.dst)=false->AK (t' e)=false)->K s'=some z->Kt t'):qop P s.den.σ (Ms.ev ⟨t,s.den.σ⟩) o.op (QK E.h o.dst t Kt):=by
 obtain⟨Z,y,Y,H⟩:=Iv hE h;split at H
 case h_2=>grind
 rename_i s' u;have O:=hf y s' u;obtain⟨W,e,he,hi⟩:=putH_r O;refine qop_le J Z (Oo Y λr0 F=>⟨y.v s.r,F,putH_v O J λt' B h1 h2=>hK s' t' y W (λi U=>⟨hi i λh=>U (by grind),h1 i U⟩) B u h2 H⟩)
theorem pathg{ops:Array Oper}{z:Bool}{Kt:(Nat->V)->Prop}{rest:List Oper}:∀(g:List Oper) (ρ:Asm) (s:St) (t:Nat->V) (K:Asm->St->Option Bool),Hg ops ρ s.den.t->(∀x∈ρ,Au g x.2.1=true)->VLe t s.den.t->CG E true ops g ρ s K=some z->
  (∀ρ' s' t',s'.r=s.r->(∀i,Au g i=true->s'.t i=s.t i/\t' i=t i)->(∀i,Au g i=false->AK (t' i)=false)->VLe t' s'.den.t->Hg ops ρ' s'.den.t->K ρ' s'=some z->vq P E.h ops s.den.σ rest Kt t')->vq P E.h ops s.den.σ (g++rest) Kt t:=by
 intro g
 induction g with
 |nil=>intro ρ s t K O _ ht h hK;exact hK ρ s t rfl (λ_ _=>⟨rfl,rfl⟩) (λi hi=>by cases hi) ht O h
 |cons o g ih=>
  intro ρ s t K O hnd ht h hK
  have hc:∀i,Au (o::g) i=((match o.dst with
   |some e=>!beq e i
   |none=>true)&&Au g i):=λ_=>rfl
  unfold CG at h;split at h
  case h_1=>cases h
  rename_i j B hgo;split at h
  case h_1=>cases h
  rename_i dj hdj;rw[List.cons_append]
  -- what is behind this operation
  have cont:∀(u:Asm) (s1:St) (t1:Nat->V),Hg ops u s.den.t->(∀x∈u,Au (o::g) x.2.1=true)->s1.r=s.r->(∀i,o.dst≠some i->s1.t i=s.t i/\t1 i=t i)->VLe t1 s1.den.t->(∀e,o.dst=some e->AK (t1 e)=false)->CG E true ops g u s1 K=some z->vq P E.h ops s.den.σ (g++rest) Kt t1:=by
   intro u s1 t1 H J hr hi ht1 ho h1;have hσ:s1.den.σ=s.den.σ:=by show s1.r.map Ab.v=s.r.map Ab.v;rw[hr]
   rw[<-hσ];refine ih u s1 t1 K (λx W=>⟨(H x W).1,?_⟩) (λx W=>(AZ (J x W)).2) ht1 h1 λρ2 s2 t2 h2 F h3' h4 h5 h6=>?_
   .show(s1.t x.2.1).v s1.r=_
    rw[(hi _ (AZ (J x W)).1).1,hr];exact(H x W).2
   .rw[hσ]
    refine hK ρ2 s2 t2 (h2.trans hr) (λi hn=>?_) (λi hn=>?_) h4 h5 h6
    .obtain⟨n1,n2⟩:=AZ hn
     exact⟨(F i n2).1.trans (hi i n1).1,(F i n2).2.trans (hi i n1).2⟩
    .by_cases hg2:Au g i=true
     .rw[(F i hg2).2]
      rw[hc,hg2,Bool.and_true]at hn;split at hn
      .rename_i e he
       have:e=i:=bqE (by simpa using hn)
       subst this;exact ho e he
      .cases hn
     .exact h3' i (by simpa using hg2)
  have pass:∀u:Asm,Hg ops u s.den.t->(∀x∈u,Au (o::g) x.2.1=true)->onS (H1 E.h s o.dst) (λs'=>CG E true ops g u s' K)=some z->(∀d,o.dst=some d->d<E.h.n)/\vq P E.h ops s.den.σ (g++rest) Kt (K7 t o.dst):=by
   intro u h1 h2 F;cases hp:H1 E.h s o.dst with
   |none=>rw[hp]at F;cases F
   |some s1=>
    rw[hp]at F;obtain⟨q1,q2,q3,q4,q5⟩:=AcH ht hp;exact⟨q2,cont u s1 _ h1 h2 q1 q3 q4 q5 F⟩
  have step:∀u:Asm,Hg ops u s.den.t->(∀x∈u,Au (o::g) x.2.1=true)->MI E true u s o (λs'=>CG E true ops g u s' K)=some z->qop P s.den.σ (Ms.ev ⟨t,s.den.σ⟩) o.op (QK E.h o.dst t (vq P E.h ops s.den.σ (g++rest) Kt)):=by
   intro u h1 h2 F;unfold MI at F;split at F
   .rename_i v Z
    split at F
    case h_2=>cases F
    rename_i s1 hs1;exact Ka ht h1 Z ⟨_,Sub.refl _,setB_v ht hs1 λt' q1 q2 q3 q4=>cont u s1 t' h1 h2 q1 q2 q3 q4 F⟩
   .refine stepq hE (f:=λy=>bif y.own&& !fzD E.h o.dst then none else s.putX true E.h o.dst y) (K:=λs'=>CG E true ops g u s' K) ht F (λy s' hy=>?_) λs' t' y hr hi ht' hfy ho hy=>?_
    .cases U:y.own&& !fzD E.h o.dst with
     |true=>rw[U]at hy;cases hy
     |false=>rw[U]at hy;exact hy
    have U:(y.own&& !fzD E.h o.dst)=false:=by
     cases U:y.own&& !fzD E.h o.dst with
     |true=>rw[U]at hfy;cases hfy
     |false=>rfl
    exact cont u s' t' h1 h2 hr hi ht' (λe he=>ho e he U) hy
  -- what the guard yields
  have run:∀v:Bool,s.den.t dj=.c (.bool v)->gv t ops j=.c (.bool v):=λv Z=>by
   unfold gv;rw[hdj];rcases ht dj with e|e
   .rw[<-Z];exact e
   .rw[Z]at e;cases e.1
  unfold vq;rw[hgo]
  have Y:∀(u:Asm) (v:Bool),s.den.t dj=.c (.bool v)->Hg ops u s.den.t->(∀x∈u,Au (o::g) x.2.1=true)->(v=B->MI E true u s o (λs'=>CG E true ops g u s' K)=some z)->(v=(!B)->onS (H1 E.h s o.dst) (λs'=>CG E true ops g u s' K)=some z)->
    (match gv t ops j with
     |.c (.bool b)=>(b=B->qop P s.den.σ (Ms.ev ⟨t,s.den.σ⟩) o.op (QK E.h o.dst t (vq P E.h ops s.den.σ (g++rest) Kt)))/\(b=(!B)->(∀d,o.dst=some d->d<E.h.n)/\vq P E.h ops s.den.σ (g++rest) Kt (K7 t o.dst))
     |v=>v=udV/\(∀d,o.dst=some d->d<E.h.n)/\vq P E.h ops s.den.σ (g++rest) Kt (K7 t o.dst)):=by
   intro u v Z h1 h2 F h4;rw[run v Z];exact⟨λe=>step u h1 h2 (F e),λe=>pass u h1 h2 (h4 e)⟩
  cases hu:isUd (s.t dj)with
  |true=>
   rw[hu]at h;have hgv:gv t ops j=udV:=by
    unfold gv;rw[hdj];have Z:=Aby hu;rcases ht dj with e|e
    .rw[<-Z];exact e
    .rw[Z]at e;cases e.1
   obtain⟨p1,p2⟩:=pass ρ O hnd h
   have hm:(match gv t ops j with
     |.c (.bool b)=>(b=B->qop P s.den.σ (Ms.ev ⟨t,s.den.σ⟩) o.op (QK E.h o.dst t (vq P E.h ops s.den.σ (g++rest) Kt)))/\(b=(!B)->(∀d,o.dst=some d->d<E.h.n)/\vq P E.h ops s.den.σ (g++rest) Kt (K7 t o.dst))
     |v=>v=udV/\(∀d,o.dst=some d->d<E.h.n)/\vq P E.h ops s.den.σ (g++rest) Kt (K7 t o.dst)):=by
    rw[hgv];exact⟨rfl,p1,p2⟩
   exact hm
  |false=>
   rw[hu]at h;simp only[cond_false]at h;split at h
   .rename_i v Z
    obtain⟨d',hm⟩:=Kl Z;obtain⟨e1,e2⟩:=O _ hm;have e1:some dj=some d':=hdj.symm.trans e1;cases e1;refine Y ρ v e2 O hnd (λe=>?_) λe=>?_
    .subst e;simpa using h
    .subst e;cases B<;>exact h
   .split at h
    case h_2=>cases h
    rename_i dd b hb;have hbv:s.den.t dj=.c (.bool b):=by show(s.t dj).v s.r=_;rw[hb];rfl
    obtain⟨hn,h⟩:=A1 h
    have H:Hg ops ((j,dj,b)::ρ) s.den.t:=λx W=>by
     rcases mem_cons.1 W with rfl|W
     .exact⟨hdj,hbv⟩
     .exact O x W
    have J:∀x∈(j,dj,b)::ρ,Au (o::g) x.2.1=true:=λx W=>by
     rcases mem_cons.1 W with rfl|W
     .exact hn
     .exact hnd x W
    refine Y ((j,dj,b)::ρ) b hbv H J (λe=>?_) λe=>?_
    .subst e;cases b<;>exact h
    .subst e;cases B<;>exact h
theorem ZI{ops:Array Oper}{K:St->Option R}{z:R}{Kt:(Nat->V)->Prop}:∀(l:List Seg) (s:St) (t:Nat->V),(∀o∈l.flatMap Seg.ops,o∈ops.toList)->VLe t s.den.t->
  WF E true ops l s K=some z->(∀s' t',s'.r=s.r->(∀i,Au ops.toList i=true->yB E ops i=false->s'.t i=s.t i)->VLe t' s'.den.t->K s'=some z->Kt t')->vq P E.h ops s.den.σ (l.flatMap Seg.ops) Kt t:=by
 intro l
 induction l with
 |nil=>intro s t _ ht h hK;exact hK s t rfl (λ_ _ _=>rfl) ht h
 |cons sg l ih=>
  intro s t hsub ht h hK;rw[flatMap_cons]at hsub;have J:∀o∈sg.ops,o∈ops.toList:=λo ho=>hsub o (List.mem_append_left _ ho)
  have F:∀o∈l.flatMap Seg.ops,o∈ops.toList:=λo ho=>hsub o (List.mem_append_right _ ho)
  cases sg with
  |one o=>
   unfold WF at h;split at h
   case h_2=>cases h
   rename_i hg;rw[flatMap_cons];show vq P E.h ops s.den.σ (o::l.flatMap Seg.ops) Kt t;unfold vq;rw[hg];cases hal:alM E.h ops o with
   |true=>
    rw[hal]at h;simp only[Bool.and_self,cond_true]at h;split at h
    case h_2=>cases h
    rename_i d hd;obtain⟨hb,h⟩:=A1 h;refine .inr ⟨rfl,d,hd,blE hb,?_⟩;refine ih ⟨AJ s.t d (.one .dead),s.r⟩ _ F ?_ h λs2 t2 h2 H h3 h4=>hK s2 t2 h2 (λi B W=>?_) h3 h4
    .show VLe _ (λi=>(AJ s.t d (.one .dead) i).v s.r)
     rw[B3];exact ht.upd (.inl rfl)
    .rw[H i B W]
     show AJ s.t d (.one .dead) i=s.t i;unfold AJ;rw[BK λe=>(AZ (o:=o) (g:=[]) (DY (g:=[o]) (λo' ho'=>J o' ho') B)).1 (by rw[hd,e])]
     rfl
   |false=>
   rw[hal]at h;simp only[Bool.and_false,cond_false]at h;refine .inl ⟨rfl,?_⟩;have nd:∀i,Au ops.toList i=true->o.dst≠some i:=λi B=>(AZ (o:=o) (g:=[]) (DY (g:=[o]) (λo' ho'=>J o' ho') B)).1
   split at h
   .rename_i y u d z' hmv
    obtain⟨hdst,hdn,hfz,ys,Y,hmq,Z,O⟩:=mvF_v ht hmv;refine .inr (.inl ⟨ys,d,z'.v s.r,hdst,hdn,hfz,Y,hmq,?_⟩);refine ih ⟨AJ (AJ s.t y u) d z',s.r⟩ _ F Z h λs2 t2 h2 H h3 h4=>hK s2 t2 h2 (λi B W=>?_) h3 h4
    rw[H i B W];have hid:i≠d:=λe=>nd i B (by rw[hdst,e])
    have hiy:i≠y:=by
     rintro rfl
     rcases O with⟨e,he,hb,O⟩|⟨hx1,hx2⟩
     rotate_left
     .have:yB E ops i=true:=by
       unfold yB;exact any_eq_true.2 ⟨o,J o (mem_singleton.2 rfl),by rw[hx1,hx2];rfl⟩
      rw[W]at this;cases this
     unfold AF at O;rw[bind_eq_some_iff]at O;obtain⟨ok,hok,hokd⟩:=O;have hmem:ok∈ops.toList:=by
      rw[<-getElem?_toList]at hok;exact mem_of_getElem? hok
     exact(AZ (o:=ok) (g:=[]) (DY (g:=[ok]) (λo' ho'=>by rw[mem_singleton.1 ho'];exact hmem) B)).1 hokd
    show AJ (AJ s.t y u) d z' i=s.t i;unfold AJ;rw[BK hid];show(bif beq i y then _ else s.t i)=s.t i;rw[BK hiy];rfl
   split at h
   .rename_i js pu ds hlq
    obtain⟨ys,r,Y,hne,hq,Z,hnw⟩:=lqF_v hE ht hlq (J o (mem_singleton.2 rfl));refine .inr (.inr ⟨ys,r,λp hp=>.inl (Y p hp),hne,hq,?_⟩)
    refine ih ⟨Abk ds (Abk pu (CU js s.t)),s.r⟩ _ F Z h λs2 t2 h2 H h3 h4=>hK s2 t2 h2 (λi B W=>?_) h3 h4
    rw[H i B W];exact hnw i B W (nd i B)
   split at h
   .rename_i A ha
    have h: @ite _ A.p A.dec (WF E true ops l ⟨AJ (CU A.js s.t) A.d A.y,s.r⟩ K) none=some z:=h;by_cases hA:A.p
    case neg=>rw[if_neg hA]at h;cases h
    rw[if_pos hA]at h;obtain⟨ys,r,Y,hne,hq,Z,hnw⟩:=appO_v hE ht ha hA;refine .inr (.inr ⟨ys,r,λp hp=>.inl (Y p hp),hne,hq,?_⟩)
    refine ih ⟨AJ (CU A.js s.t) A.d A.y,s.r⟩ _ F Z h λs2 t2 h2 H h3 h4=>hK s2 t2 h2 (λi B W=>?_) h3 h4
    rw[H i B W];exact hnw i B (nd i B)
   split at h
   .rename_i A ha
    cases hu:A.o with
    |none=>rw[hu]at h;cases h
    |some u=>
    rw[hu]at h;simp only[bind_some]at h;obtain⟨ys,r,Y,hne,hq,Z,hdst,f,xs,e,zk,g1,g2,g3,g4,g5⟩:=ZN hE.U ht ha hu;refine .inr (.inr ⟨ys,r,Y,hne,hq,?_⟩);refine ih ⟨AJ (AJ s.t A.y (A.u u)) A.d (A.z u),s.r⟩ _ F Z h λs2 t2 h2 H h3 h4=>hK s2 t2 h2 (λi B W=>?_) h3 h4
    rw[H i B W];have hid:i≠A.d:=λe=>nd i B (by rw[hdst,e])
    have hiy:i≠A.y:=by
     rintro rfl
     have key:ucB E ops o A.y=true->False:=λhu=>by
      have:yB E ops A.y=true:=by
       unfold yB;refine any_eq_true.2 ⟨o,J o (mem_singleton.2 rfl),?_⟩;rw[or_eq_true];exact .inr hu
      rw[W]at this;cases this
     unfold okU at g5;unfold Xv at g4;unfold ucB at key;rw[g1]at key;simp only[g2,g3]at key;cases hs:alS E.h ops o zk with
     |some y=>
      rw[hs]at g4 key;have g4:y=A.y:=g4;exact key (by rw[g4];exact beq_refl _)
     |none=>
      rw[hs]at g4 g5 key;have g4:zk=A.y:=g4;have g5:(mvB ops o zk||(dX E zk&&(mvR ops o zk||mvC ops o zk)))=true:=g5;rw[or_eq_true]at g5;rcases g5 with g5|g5
      .unfold mvB at g5
       rw[bAE]at g5;obtain⟨e1,he1,_,O⟩:=HF g5.2;unfold AF at O;rw[bind_eq_some_iff]at O;obtain⟨ok,hok,hokd⟩:=O;have hmem:ok∈ops.toList:=by
        rw[<-getElem?_toList]at hok;exact mem_of_getElem? hok
       refine(AZ (o:=ok) (g:=[]) (DY (g:=[ok]) (λo' ho'=>by rw[mem_singleton.1 ho'];exact hmem) B)).1 ?_
       rw[hokd,g4]
      .rw[bAE]at g5
       exact key (by rw[g5.1,g4];exact beq_refl _)
    show AJ (AJ s.t A.y (A.u u)) A.d (A.z u) i=s.t i;unfold AJ;rw[BK hid];show(bif beq i A.y then _ else s.t i)=s.t i;rw[BK hiy];rfl
   refine .inl (stepq hE (f:=λy=>s.putX true E.h o.dst y) ht h (λ_ _ h=>h) λs' t' _ hr hi ht' _ _ hy=>?_)
   have hσ:s'.den.σ=s.den.σ:=by show s'.r.map Ab.v=s.r.map Ab.v;rw[hr]
   rw[<-hσ]
   exact ih s' t' F ht' hy λs2 t2 h2 H h3 h4=>hK s2 t2 (h2.trans hr) (λi B W=>by
    rw[H i B W,(hi i (nd i B)).1]) h3 h4
  |grp g pk=>
   unfold WF at h;split at h
   case h_2=>cases h
   rename_i d hpd;have hpd2:pk.dst=some d/\pk.guard=none/\d<E.h.n/\E.h.fz.contains d=false:=by
    unfold Aae at hpd;split at hpd
    case h_2=>cases hpd
    rename_i d' e1 e2;obtain⟨hb,hpd⟩:=A1 hpd;cases hpd;rw[bAE,not_eq_true']at hb;exact⟨e1,e2,blE hb.1,hb.2⟩
   obtain⟨e1,e2,h3,h4⟩:=hpd2;cases hv:grpB E true ops s g pk with
   |none=>rw[hv]at h;cases h
   |some v=>
    rw[hv]at h;simp only[bind_some]at h;rw[flatMap_cons];show vq P E.h ops s.den.σ ((g++[pk])++l.flatMap Seg.ops) Kt t;rw[List.append_assoc];refine pathg hE g [] s t _ (λx W=>by cases W) (λx W=>by cases W) ht hv λρ' s' t' hr hi ho ht' hρ' hs'=>?_
    rw[hr,beq_refl]at hs';have hs':ON ρ' s' pk.op=some v:=hs';have hσ:s'.den.σ=s.den.σ:=by show s'.r.map Ab.v=s.r.map Ab.v;rw[hr]
    show vq P E.h ops s.den.σ (pk::l.flatMap Seg.ops) Kt t';unfold vq;rw[e2];refine .inl ⟨?_,.inl ?_⟩
    .cases hal:alM E.h ops pk with
     |false=>rfl
     |true=>
      obtain⟨_,_,_,hop,_⟩:=NI hal;rw[hop]at hs';cases hs'
    rw[<-hσ];refine Ka ht' hρ' hs' ⟨_,Sub.refl _,?_⟩;rw[e1,hσ];refine⟨h3,?_⟩;simp only[h4,Bool.false_eq_true,if_false]
    refine ih ⟨AJ (Df g s.t) d (.one (.c .bool 0 v)),s.r⟩ (AD t' d (.c (.bool v))) F ?_ h λs2 t2 h2 H h3 h4=>hK s2 t2 h2 (λi hn0 hx0=>by
     have B:Au ((g++[pk])++l.flatMap Seg.ops) i=true:=DY hsub hn0;unfold Au at B;rw[List.all_append,List.all_append,bAE,bAE]at B;rw[H i hn0 hx0];show AJ (Df g s.t) d (.one (.c .bool 0 v)) i=s.t i;have hid:i≠d:=by
      rintro rfl
      have:=B.1.2;simp only[List.all_cons,List.all_nil,Bool.and_true,e1,beq_refl,Bool.not_true]at this;cases this
     unfold AJ;rw[BK hid];show Df g s.t i=s.t i;rw[D9,if_pos (show Au g i=true from B.1.1)]) h3 h4
    show VLe _ (λi=>(AJ (Df g s.t) d (.one (.c .bool 0 v)) i).v s.r)
    rw[B3];refine VLe.upd ?_ (.inl rfl);intro i;simp only[D9];by_cases B:Au g i=true
    .rw[if_pos B,(hi i B).2];exact ht i
    .rw[if_neg B];exact .inr ⟨rfl,ho i (by simpa using B)⟩
end head
end Go.Ve

