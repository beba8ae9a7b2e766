/- The typed machine: lists of quiet operations, guards; the head of a region that draws its order. -/
import Derived.Test.YtcpgmjbppfdjbaaDoorTg
import Derived.Test.YtcpgmjbppfdjbaaDoorTd
namespace Go.Ve
variable{hh:Cg}{Us:List EnU}{js:List Nat}{g:List Oper}{d i k:Nat}{t t':Nat->V}{op:Op}{o:Oper}{x:Operand}{P:Program}{y:Sl}{s s':St}{ty:Ty}{R:Type}{v v':V}{K:V->Prop}
structure Env where
 Θ:Tab
 Γ:List En
 W:List EnW
 N:List EnN
 h:Cg
 U:List EnU
variable{E:Env}
def Ia:Op->Option (FuncId×Array Operand)
 | .call c=>match c.callee with
  | .value (.func f)=>some (f,c.args)
  |_=>none
 |_=>none
def Cl.live:Cl->Bool
 | .dead=>false
 | .c (.osl _) _ _=>false
 | .c t _ _=>t.one
 |_=>true
def Z2:Option Sl->Bool
 |some (.one y)=>y.live
 |some _=>true
 |none=>false
theorem live_v(h:Z2 (s.ev x)=true):s.den.ev x≠.dead:=by
 unfold Z2 at h;split at h
 ·rename_i y hy
  rw [AZ hy];cases y with
  |c t d x=>
   cases t<;>first|(intro hc;trivial)|rfl
  |dead=>cases h
  |_=>intro hc;trivial
 ·rename_i y hne hy
  rw [AZ hy];cases y with
  |one c=>grind
  |_=>intro hc;trivial
 grind
def St.liveX(s:St):Operand->Bool
 | .func _=>true
 |x=>Z2 (s.ev x)
theorem We(h:s.liveX x=true):s.den.ev x≠.dead:=by
 cases x with
 |func f=>
  intro e;have e:fnV f= .dead:=e;unfold fnV at e
  grind
 |_=>exact live_v h
def Zm{R:Type}(E:Env)(s:St)(ty:TypeId)(op:Op)(K:Sl->Option R):Option R:=bif op.operands.toList.all s.liveX then(match Ia op with
 |some (f,xs)=>match I5 E.Γ s f (xs.toList.map s.ev)with
  |some a=>H1 a.o λz=>K (a.y z)
  |none=>match Vi E.N s f (xs.toList.map s.ev)with
   |some a=>H1 a.o λz=>N3 z.1 (K (a.y true z.2)) (K (a.y false z.2))
   |none=>none
 |none=>match cloF s op with
  |some (g,ys)=>match I5 E.Γ s g (ys.map some)with
   |some a=>H1 a.o λz=>K (a.y z)
   |none=>none
  |none=>match cloI E.Θ s op with
  |some (g,ys)=>match I5 E.Γ s g (ys.map some)with
   |some a=>H1 a.o λz=>K (a.y z)
   |none=>none
  |none=>match tq E.Θ s ty op with
   |some (.ok y)=>K y
   |some (.cnd p dec y)=>oif p dec (K y)
   |none=>none)else none
structure EOK(P:Program)(E:Env):Prop where
 Θ:E.Θ.OK P
 Γ:N9 P E.Γ
 W: ∀e∈E.W,e.OK P
 N: ∀e∈E.N,e.OK P
 U: ∀e∈E.U,e.OK P
theorem HI(hE:EOK P E){ty:TypeId}{K:Sl->Option R}{z:R}(h:Zm E s ty op K=some z):(∀x∈op.operands,s.den.ev x≠.dead)/\∃y,QS P s op y/\K y=some z:=by
 unfold Zm at h;obtain⟨hl,h⟩:=A1 h;refine⟨λx hx=>We (aET.1 hl x (by simpa using hx)),?_⟩
 split at h
 ·rename_i f xs hc
  split at h
  case h_2=>
   split at h
   case h_2=>cases h
   rename_i a ha;cases hu:a.o with
   |none=>rw [hu]at h;cases h
   |some u=>
    rw [hu]at h;obtain⟨b,u⟩:=u;refine⟨a.y b u,?_,by cases b<;>exact h⟩
    unfold Ia at hc;split at hc
    case h_2=>cases hc
    rename_i c;obtain⟨callee,args,ats⟩:=c;split at hc
    case h_2=>cases hc
    rename_i f' hf;have hf:callee= .value (.func f'):=hf;subst hf;cases hc;exact MM hE.N ha hu
  rename_i a ha;cases hu:a.o with
  |none=>rw [hu]at h;cases h
  |some u=>
   rw [hu]at h;refine⟨a.y u,?_,h⟩;unfold Ia at hc;split at hc
   case h_2=>cases hc
   rename_i c;obtain⟨callee,args,ats⟩:=c;split at hc
   case h_2=>cases hc
   rename_i f' hf;have hf:callee= .value (.func f'):=hf;subst hf;cases hc;exact Oq hE.Γ ha hu
 ·split at h
  ·rename_i g ys hg
   split at h
   case h_2=>cases h
   rename_i a ha;cases hu:a.o with
   |none=>rw [hu]at h;cases h
   |some u=>
    rw [hu]at h;exact⟨a.y u,Uz hE.Γ hg ha hu,h⟩
  split at h
  ·rename_i g ys hg
   split at h
   case h_2=>cases h
   rename_i a ha;cases hu:a.o with
   |none=>rw [hu]at h;cases h
   |some u=>
    rw [hu]at h;exact⟨a.y u,Uy hE.Θ hE.Γ hg ha hu,h⟩
  split at h
  ·rename_i y ha
   exact⟨y,Pl hE.Θ ha trivial,h⟩
  ·rename_i p dec y ha
   have h: @ite _ p dec (K y) none=some z:=h;by_cases hp:p
   ·rw [if_pos hp]at h
    exact⟨y,Pl hE.Θ ha hp,h⟩
   ·rw [if_neg hp]at h;cases h
  ·cases h
def St.putH(h:Cg)(s:St)(d:Option Nat)(y:Sl):Option St:=match d with
 |none=>none
 |some d=>bif Nat.blt d h.n then(bif h.fz.contains d then(match y.frz with
   |some y'=>some ⟨AD s.t d y',s.r⟩
   |none=>none)else some ⟨AD s.t d y,s.r⟩)else none
def St.putX(hd:Bool)(h:Cg)(s:St)(d:Option Nat)(y:Sl):Option St:=bif hd then s.putH h d y else s.put h d y
inductive Seg where
 |one (o:Oper)
 |grp (g:List Oper) (pk:Oper)
def Seg.ops:Seg->List Oper
 | .one o=>[o]
 | .grp g pk=>g++ [pk]
def Qx:List Oper->List Oper×List Oper
 | []=>([],[])
 |o::l=>bif o.guard.isSome then(o::(Qx l).1,(Qx l).2)else([],o::l)
def W9:Nat->List Oper->List Seg
 |0,l=>l.map .one
 |_+1,[]=>[]
 |n+1,o::l=>match o.guard with
  |none=>.one o::W9 n l
  |some _=>match Qx l with
   |(g,pk::rest)=>.grp (o::g) pk::W9 n rest
   |(_,[])=>(o::l).map .one
theorem MF: ∀l,(Qx l).1++(Qx l).2=l
 | []=>rfl
 |o::l=>by
  unfold Qx;cases hb:o.guard.isSome with
  |true=>simp [MF l]
  |false=>rfl
theorem LT: ∀l:List Oper,(l.map Seg.one).flatMap Seg.ops=l
 | []=>rfl
 |o::l=>by rw [List.map_cons,List.flatMap_cons,LT l];rfl
theorem B3: ∀ (n:Nat) (l:List Oper),(W9 n l).flatMap Seg.ops=l
 |0,l=>LT l
 |n+1,[]=>rfl
 |n+1,o::l=>by
  unfold W9;split
  ·rw [List.flatMap_cons,B3 n l];rfl
  ·split
   ·rename_i g pk rest ht
    rw [List.flatMap_cons,B3 n rest];have:=MF l;rw [ht]at this;rw [<-this];simp [Seg.ops]
   ·exact LT _
def valB(s:St)(x:Operand):Option Bool:=match s.ev x with
 |some (.one (.c .bool _ b))=>some b
 |_=>none
theorem valB_v{b:Bool}(h:valB s x=some b):s.den.ev x= .c (.bool b):=by
 unfold valB at h;split at h
 ·rename_i d b' hs
  cases h;rw [AZ hs];rfl
 grind
def CN:List Oper->(Nat->Sl)->Nat->Sl
 | [],t=>t
 |o::l,t=>match o.dst with
  |some d=>CN l (AD t d (.one .dead))
  |none=>CN l t
def Ai(g:List Oper)(d:Nat):Bool:=g.all λo=>match o.dst with
 |some e=>!Nat.beq e d
 |none=>true
abbrev Asm:=List (Nat×Nat×Bool)
def Wc:Asm->Nat->Option Bool
 | [],_=>none
 |(i,_,v)::ρ,j=>bif Nat.beq i j then some v else Wc ρ j
def XW:Asm->Nat->Option Bool
 | [],_=>none
 |(_,d,v)::ρ,c=>bif Nat.beq d c then some v else XW ρ c
def Z9:Sl->Bool
 | .tup []=>true
 |_=>false
def Ud(s:St)(x:Operand):Bool:=match s.ev x with
 |some y=>!y.own
 |none=>false
def Nn(ρ:Asm)(s:St):Op->Option Bool
 | .pick (.tmp c) x y=>bif Ud s x&&Ud s y then(match XW ρ c with
  |some v=>valB s (bif v then x else y)
  |none=>none)else none
 |_=>none
def AaI(h:Cg)(s:St)(d:Option Nat)(v:Bool):Option St:=match d with
 |some d=>bif Nat.blt d h.n&& !h.fz.contains d then some ⟨AD s.t d (.one (.c .bool 0 v)),s.r⟩else none
 |none=>none
def CM(h:Cg)(s:St)(d:Option Nat):Option St:=match d with
 |some d=>bif Nat.blt d h.n then some ⟨AD s.t d (.tup []),s.r⟩else none
 |none=>some s
def fzD(h:Cg):Option Nat->Bool
 |some d=>h.fz.contains d
 |none=>false
def Lv(E:Env)(hd:Bool)(ρ:Asm)(s:St)(o:Oper)(K:St->Option Bool):Option Bool:=match Nn ρ s o.op with
 |some v=>match AaI E.h s o.dst v with
  |some s'=>K s'
  |none=>none
 |none=>Zm E s o.type o.op λy=>match(bif y.own&& !fzD E.h o.dst then none else s.putX hd E.h o.dst y)with
  |some s'=>K s'
  |none=>none
def onS(o:Option St)(K:St->Option Bool):Option Bool:=match o with
 |some s=>K s
 |none=>none
def Ck(E:Env)(hd:Bool)(ops:Array Oper):List Oper->Asm->St->(Asm->St->Option Bool)->Option Bool
 | [],ρ,s,K=>K ρ s
 |o::l,ρ,s,K=>match o.guard with
  |none=>none
  |some (j,want)=>match(ops[j]?).bind (·.dst)with
   |none=>none
   |some dj=>bif Z9 (s.t dj)then onS (CM E.h s o.dst) (λs'=>Ck E hd ops l ρ s' K)else match Wc ρ j with
    |some v=>bif v==want then Lv E hd ρ s o (λs'=>Ck E hd ops l ρ s' K)else onS (CM E.h s o.dst) (λs'=>Ck E hd ops l ρ s' K)
    |none=>match s.t dj with
     | .one (.c .bool _ b)=>bif Ai (o::l) dj then
      N3 b (bif want then Lv E hd ((j,dj,true)::ρ) s o (λs'=>Ck E hd ops l ((j,dj,true)::ρ) s' K)else onS (CM E.h s o.dst) (λs'=>Ck E hd ops l ((j,dj,true)::ρ) s' K))
       (bif want then onS (CM E.h s o.dst) (λs'=>Ck E hd ops l ((j,dj,false)::ρ) s' K)else Lv E hd ((j,dj,false)::ρ) s o (λs'=>Ck E hd ops l ((j,dj,false)::ρ) s' K))else none
     |_=>none
def grpB(E:Env)(hd:Bool)(ops:Array Oper)(s:St)(g:List Oper)(pk:Oper):Option Bool:=
 Ck E hd ops g [] s λρ s'=>bif Nat.beq s'.r.length s.r.length then Nn ρ s' pk.op else none
def XP(h:Cg)(pk:Oper):Option Nat:=match pk.dst,pk.guard with
 |some d,none=>bif Nat.blt d h.n&& !h.fz.contains d then some d else none
 |_,_=>none
def partS:Bool×List Cl->Option Sl
 |(true,m)=>some (.agg m)
 |(false,y::_)=>some (.one y)
 |(false,[])=>none
def hdS:Sl->Sl
 | .one (.c (.sl _) (_+1) xs)=>.one (.c (.sl .unit) 0 (YN (H5 xs) ()))
 | .one (.c (.osl _) (_+1) x)=>match x with
  |some xs=>.one (.c (.sl .unit) 0 (YN (H5 xs) ()))
  |none=>.one .dead
 |_=>.one .dead
theorem hdS_v(r:List Aa)(y:Sl):hdV (y.v r)=(hdS y).v r:=by
 cases y with
 |one c=>
  cases c with
  |c t d x=>
   cases t with
   |sl t=>
    cases d with
    |zero=>rfl
    |succ d=>
     show V.nd true false 0 x.length (λ_ _=>.dead)=V.nd true false 0 (List.replicate x.length ()).length λi k=>([].getD k .dead)
     simp
   |ptr t=>rfl
   |osl t=>
    cases d with
    |zero=>cases x<;>rfl
    |succ d=>
     cases x with
     |none=>rfl
     |some x=>
      show V.nd true false 0 x.length (λ_ _=>.dead)=V.nd true false 0 (List.replicate x.length ()).length λi k=>([].getD k .dead)
      simp
   |_=>rfl
  |_=>rfl
 |_=>rfl
def dX(E:Env)(y:Nat):Bool:=E.h.fz.contains (y+1000000)
def Jw(o:Oper)(y:Nat):Bool:=match o.op with
 | .assign (.tmp z)=>Nat.beq z y
 | .move (.tmp z)=>Nat.beq z y
 |_=>false
def stB(o:Oper)(y:Nat):Bool:=match o.op with
 | .store _ (.tmp z) _=>Nat.beq z y
 |_=>false
def alS(h:Cg)(ops:Array Oper)(o:Oper)(z:Nat):Option Nat:=o.after.toList.findSome? λe=>bif Region.binds .any e then(match ops[e.on]? with
 |some c=>bif alM h ops c then(match c.op,c.dst with
  | .move (.tmp y),some z'=>bif Nat.beq z' z then some y else none
  |_,_=>none)else none
 |none=>none)else none
theorem alS_v{h:Cg}{ops:Array Oper}{z y:Nat}(hs:alS h ops o z=some y):AlP h ops o z y:=by
 obtain⟨e,he,h1⟩:=List.exists_of_findSome?_eq_some hs;cases hb:Region.binds .any e with
 |false=>grind
 |true=>
  rw [hb]at h1;split at h1
  case h_2=>grind
  rename_i c hc;cases hal:alM h ops c with
  |false=>grind
  |true=>
   rw [hal]at h1;split at h1
   case h_2=>cases h1
   rename_i y' z' hop hd;cases hz:Nat.beq z' z with
   |false=>grind
   |true=>
    rw [hz]at h1;cases h1;exact⟨e,by grind,hb,c,hc,hal,hop,by simp_all⟩
def Vo(h:Cg)(ops:Array Oper)(o:Oper)(z:Nat):Nat:=match alS h ops o z with
 |some y=>y
 |none=>z
def okU(h:Cg)(dx:Nat->Bool)(ops:Array Oper)(o:Oper)(z:Nat):Bool:=match alS h ops o z with
 |some y=>Qy h ops o (y,.put .dead)
 |none=>mvB ops o z||(dx z&&(mvR ops o z||mvC ops o z))
def ucB(E:Env)(ops:Array Oper)(o:Oper)(y:Nat):Bool:=match Ia o.op with
 |some (f,xs)=>match Jy E.U f with
  |some e=>match xs.toList[e.S.k]? with
   |some (.tmp z)=>match alS E.h ops o z with
    |some y'=>Nat.beq y' y
    |none=>dX E z&&Nat.beq z y
   |_=>false
  |none=>false
 |none=>false
def yB(E:Env)(ops:Array Oper)(y:Nat):Bool:=ops.toList.any λo=>(dX E y&&(Jw o y||stB o y))||ucB E ops o y
def mvF(E:Env)(ops:Array Oper)(s:St)(o:Oper):Option (Nat×Sl×Nat×Sl):=match o.op,o.dst with
 | .assign (.tmp y),some d=>bif(s.t y).own&&Nat.blt d E.h.n&& !E.h.fz.contains d&&(mvB ops o y||(dX E y&&mvR ops o y))then some (y,hdS (s.t y),d,s.t y)else none
 | .move (.tmp y),some d=>bif(s.t y).own&&Nat.blt d E.h.n&& !E.h.fz.contains d&&(mvB ops o y||(dX E y&&mvR ops o y))then some (y,hdS (s.t y),d,s.t y)else none
 | .extract (.tmp y) c,some d=>match s.t y with
  | .tup l=>match l[c]? with
   |some q=>match partS q with
    |some z=>bif z.own&&Nat.blt d E.h.n&& !E.h.fz.contains d&&exB ops o y c then some (y,.tup (l.set c (false,[])),d,z)else none
    |none=>none
   |none=>none
  |_=>none
 |_,_=>none
def notT(p:Nat):Operand->Bool
 | .tmp y=>!Nat.beq y p
 |_=>true
def newC:Sl->Option (List Cl)
 | .new lp=>some lp
 | .one (.c (.ptr u) (d+1) z)=>some (Am u d z)
 |_=>none
theorem newC_v{lp:List Cl}(h:newC y=some lp)(r:List Aa):y.v r=A7 true (lp.map Cl.v0):=by
 unfold newC at h;split at h
 ·cases h;rfl
 ·rename_i u d z
  cases h;show A7 (decide (0<d+1)) (tyV u (d+1-1) z)=_;rw [Bu,dT (Nat.succ_pos _)];rfl
 ·cases h
def lqF(E:Env)(ops:Array Oper)(s:St)(o:Oper):Option (List Nat×Option (Nat×Sl)×Option (Nat×Sl)):=match o.op,o.dst with
 | .build t ps,some d=>bif CH ((ps.toList.map (·.2)).map (KG s))&&(match jsO ((ps.toList.map (·.2)).map (KG s))with
   | []=>false
   |a::l=>(a::l).all (mvB ops o))&&Nat.blt d E.h.n then(match E.Θ.look t with
    |some i=>bif i.agg then(match MJ (λk=>i.places[k]?) (HF i.ty) (ps.toList.map λp=>(p.1,s.ev p.2))with
     |some l=>some (jsO ((ps.toList.map (·.2)).map (KG s)),none,some (d,.agg (bif E.h.fz.contains (2000000+d)then Ub (Am i.ty 0 i.ty.dflt) l else l)))
     |none=>none)else none
    |none=>none)else none
 | .buildSlice t n ps,some d=>bif CH ((ps.toList.map (·.2)).map (KG s))&&(match jsO ((ps.toList.map (·.2)).map (KG s))with
   | []=>false
   |a::l=>(a::l).all (mvB ops o))&&Nat.blt d E.h.n then(match((E.Θ.look t).bind (·.elem)).bind E.Θ.look with
    |some j=>bif Nat.blt 0 j.ty.w&&Nat.ble (n*j.ty.w) 16777216 then(match MJ (λi=>some (i*j.ty.w,j.ty.w)) (ZM n (HF j.ty)) (ps.toList.map λp=>(p.1,s.ev p.2))with
     |some l=>bif l.all Cl.keep then(match Nq j.ty j.sd n (l.map (fit j.sd))with
      |some xs=>some (jsO ((ps.toList.map (·.2)).map (KG s)),none,some (d,.one (.c (.sl j.ty) (j.sd+1) xs)))
      |none=>none)else none
     |none=>none)else none
    |none=>none)else none
 | .store t (.tmp p) x,none=>match newC (s.t p),(s.ev x).bind Sl.cellsO,E.Θ.look t with
  |some lp,some l,some i=>bif(mvB ops o p||(dX E p&&mvR ops o p))&&Nat.blt p E.h.n&&Nat.beq lp.length i.ty.w&&Nat.beq l.length i.ty.w&&l.all Cl.keep&&(jsO ([x].map (KG s))).all (mvB ops o)&&notT p x then some (jsO ([x].map (KG s)),some (p,.new (Ub lp l)),none)else none
  |_,_,_=>none
 |_,_=>none
def WU:Op->Option (TypeId×Operand×Operand)
 | .call c=>match c.callee,c.args.toList,c.argTypes.toList with
  | .builtin .append,[x,y],[t,t']=>bif Nat.beq t t' then some (t,x,y)else none
  |_,_,_=>none
 |_=>none
theorem list2{α:Type}{xs:Array α}{x y:α}(h:xs.toList= [x,y]):xs= #[x,y]:=by grind
theorem AaB{t:TypeId}{y:Operand}(h:WU op=some (t,x,y)):op= .call ⟨.builtin .append,#[x,y],#[t,t]⟩:=by
 unfold WU at h;split at h
 case h_2=>grind
 rename_i c;obtain⟨callee,args,ats⟩:=c;simp at h;split at h
 case h_2=>grind
 rename_i x' y' t1 t2 hx hat;cases hb:Nat.beq t1 t2 with
 |false=>grind
 |true=>
  rw [hb]at h;cases h;have:=bqE hb;subst this;rw [list2 hx,list2 hat]
def UN(t:Ty)(d':Nat):Option Sl->Option (Nat×List t.T)
 |some (.one (.c (.sl t') (d+1) xs))=>if h:t'=t then some (d,h▸xs)else none
 |some (.one .nil)=>some (d',[])
 |_=>none
def UM(s:St)(t:Ty):Option Sl->Option (Nat×List t.T)
 |some (.one (.c (.sl t') (d+1) ys))=>if h:t'=t then(bif t.noO then some (d,h▸ys)else none)else none
 |y=>match UD s t s.r.length y with
  |some (d,ys,[])=>some (d,ys)
  |_=>none
structure AO where
 p:Prop
 dec:Decidable p
 js:List Nat
 d:Nat
 y:Sl
def le1(v v':V):Prop:=v=v'\/(v'= .dead/\AE v=false)
def Ye(y:Sl):Sl:=match y.frz with
 |some z=>z
 |none=>.one .dead
theorem Aal(y:Sl)(r:List Aa):le1 (Go.Ve.frz (y.v r)) ((Ye y).v r):=by
 have hfz: ∀v,AE (Go.Ve.frz v)=false:=by
  intro v
  induction v with
  |many t n f ih=>show((List.range n).any λk=>AE (Go.Ve.frz (f k)))=false;grind
  |nd=>rfl
  |_=>rfl
 unfold Ye;cases hz2:y.frz with
 |none=>exact .inr ⟨rfl,hfz _⟩
 |some z2=>exact .inl (Sl.frz_v hz2)
def appO(E:Env)(ops:Array Oper)(s:St)(o:Oper):Option AO:=match WU o.op,o.dst with
 |some (t,x,y),some d=>(match((E.Θ.look t).bind (·.elem)).bind E.Θ.look with
  |some i=>bif CH ([x,y].map (KG s))&&(match jsO ([x,y].map (KG s))with
    | []=>false
    |a::l=>(a::l).all (mvB ops o))&&Nat.blt d E.h.n&&Nat.blt 0 i.bytes&&Nat.blt 0 i.ty.w then(match UM s i.ty (s.ev y)with
   |some (d',ys)=>match UN i.ty d' (s.ev x)with
    |some (dx,xs)=>bif dOK i.ty d' dx then some ⟨H5 xs+H5 ys<=NA i.bytes,inferInstance,jsO ([x,y].map (KG s)),d,(bif E.h.fz.contains d then Ye (.one (.c (.sl i.ty) (dx+1) (Aay xs ys)))else .one (.c (.sl i.ty) (dx+1) (Aay xs ys)))⟩else none
    |none=>none
   |none=>none)else none
  |none=>none)
 |_,_=>none
structure Qo where
 α:Type
 o:Option α
 y:Nat
 d:Nat
 u:α->Sl
 z:α->Sl
variable{A:Qo}
def Lp(h:Cg)(okf:Nat->Bool)(sl:Nat->Nat)(Us:List EnU)(s:St)(o:Oper):Option Qo:=match Ia o.op,o.dst with
 |some (f,xs),some d=>match Jy Us f with
  |some e=>match xs.toList[e.S.k]? with
   |some (.tmp z)=>match s.t (sl z)with
    | .one (.c t dd x)=>if ht:t=e.S.t then
      bif Nat.beq dd e.S.d&&Nat.blt d h.n&&Nat.blt (sl z) h.n&& !Nat.beq (sl z) d&&okf z&&Db e.S.rs&&((Ct e.S.k xs.toList).map s.ev).all uok&&(Ct e.S.k xs.toList).all s.liveX then
       (match DE s e.S.ps ((Ct e.S.k xs.toList).map s.ev)with
       |some zz=>some ⟨(RT e.S.rs).T×e.S.t.T,N3 (bif e.S.eat then true else Aag e.S.t (ht▸x)) (e.g zz (ht▸x)) none,sl z,d,λu=>bif e.S.eat then .one .dead else .one (.c e.S.t e.S.d u.2),λu=>bif h.fz.contains d then Ye (Mq true e.S.rs u.1)else Mq true e.S.rs u.1⟩
       |none=>none)else none
     else none
    |_=>none
   |_=>none
  |none=>none
 |_,_=>none
def YE(h:Cg)(dx:Nat->Bool)(Us:List EnU)(ops:Array Oper)(s:St)(o:Oper):Option Qo:=Lp h (okU h dx ops o) (Vo h ops o) Us s o
def YJ:Option (Nat×Sl)->(Nat->Sl)->Nat->Sl
 |some (d,y),t=>AD t d y
 |none,t=>t
def UI{R:Type}(E:Env)(hd:Bool)(ops:Array Oper):List Seg->St->(St->Option R)->Option R
 | [],s,K=>K s
 | .one o::l,s,K=>match o.guard with
  |none=>bif hd&&alM E.h ops o then(match o.dst with
   |some d=>bif Nat.blt d E.h.n then UI E hd ops l ⟨AD s.t d (.one .dead),s.r⟩ K else none
   |none=>none)else match mvF E ops s o with
   |some (y,u,d,z)=>UI E hd ops l ⟨AD (AD s.t y u) d z,s.r⟩ K
   |none=>match(bif hd then lqF E ops s o else none)with
    |some (js,pu,ds)=>UI E hd ops l ⟨YJ ds (YJ pu (Cv js s.t)),s.r⟩ K
    |none=>match(bif hd then appO E ops s o else none)with
     |some A=>oif A.p A.dec (UI E hd ops l ⟨AD (Cv A.js s.t) A.d A.y,s.r⟩ K)
     |none=>match(bif hd then YE E.h (dX E) E.U ops s o else none)with
      |some A=>H1 A.o λu=>UI E hd ops l ⟨AD (AD s.t A.y (A.u u)) A.d (A.z u),s.r⟩ K
      |none=>Zm E s o.type o.op λy=>match s.putX hd E.h o.dst y with
       |some s'=>UI E hd ops l s' K
       |none=>none
  |some _=>none
 | .grp g pk::l,s,K=>match XP E.h pk with
  |some d=>H1 (grpB E hd ops s g pk) λv=>UI E hd ops l ⟨AD (CN g s.t) d (.one (.c .bool 0 v)),s.r⟩ K
  |none=>none
theorem Br{a b:Nat}(h:a≠b):Nat.beq a b=false:=by
 cases hx:Nat.beq a b with
 |false=>rfl
 |true=>simp_all
theorem Dq: ∀ (g:List Oper) (t:Nat->Sl) (i:Nat),CN g t i=if Ai g i then t i else .one .dead
 | [],t,i=>rfl
 |o::g,t,i=>by
  have hc:Ai (o::g) i=((match o.dst with
   |some e=>!Nat.beq e i
   |none=>true)&&Ai g i):=rfl
  rw [hc];unfold CN;cases hd:o.dst with
  |none=>
   exact Dq g t i
  |some d=>
   simp;rw [Dq g];by_cases hdi:d=i
   ·subst hdi
    simp [AD]
   ·have h1:=Br hdi
    have h2:=Br (Ne.symm hdi);simp [AD,h1,h2]
def VLe(t t':Nat->V):Prop:=∀i,le1 (t i) (t' i)
theorem VLe.refl(t:Nat->V):VLe t t:=λ_=>.inl rfl
theorem VLe.upd(h:VLe t t')(hv:le1 v v'):VLe (Az t d v) (Az t' d v'):=by
 intro i;unfold Az;split
 ·grind
 ·exact h i
theorem VLe.ev{t t':Nat->V}{σ:List V}(h:VLe t t')(x:Operand):le1 (Ms.ev ⟨t,σ⟩ x) (Ms.ev ⟨t',σ⟩ x):=by
 cases x with
 |tmp i=>exact h i
 |_=>exact .inl rfl
theorem qop_le{σ:List V}(h:VLe t t')(hl: ∀x∈op.operands,Ms.ev ⟨t',σ⟩ x≠.dead)(hq:M1 P σ (Ms.ev ⟨t',σ⟩) op K):M1 P σ (Ms.ev ⟨t,σ⟩) op K:=
 Kv (λx hx=>((h.ev x).resolve_right λe=>hl x hx e.1).symm) hq
section head
variable {P:Program} {E:Env}
theorem putH_v{d:Option Nat}{K:(Nat->V)->Prop}(hp:s.putH E.h d y=some s')(ht:VLe t s.den.t)(hK: ∀t',VLe t' s'.den.t->(∀i,d≠some i->t' i=t i)->(∀e,d=some e->(y.own&& !fzD E.h d)=false->AE (t' e)=false)->K t'):QK E.h d t K (y.v s.r):=by
 unfold St.putH at hp;split at hp
 ·cases hp
 ·rename_i d
  obtain⟨hb,hp⟩:=A1 hp
  have hfz: ∀v:V,AE (frz v)=false:=by
   intro v
   induction v with
   |many t n f ih=>show((List.range n).any λk=>AE (frz (f k)))=false;rw [List.any_eq_false];intro k _;rw [ih k];simp
   |nd=>rfl
   |_=>rfl
  refine⟨blE hb,hK _ ?_ (λi hi=>if_neg λe=>hi (by rw [e])) λe he ho=>?_⟩
  rotate_left
  ·cases he
   unfold Az;rw [if_pos rfl];split
   ·exact hfz _
   ·rename_i hnf
    rw [Sl.own_v];have hnf:E.h.fz.contains d=false:=by simpa using hnf
    have ho:(y.own&& !E.h.fz.contains d)=false:=ho;rw [hnf]at ho;simpa using ho
  cases hf:E.h.fz.contains d with
  |true=>
   rw [hf]at hp;simp only [cond_true]at hp;split at hp
   ·rename_i y' hy
    cases hp;simp only [if_true];rw [Sl.frz_v hy];show VLe _ (λi=>(AD s.t d y' i).v s.r)
    rw [BO];exact ht.upd (.inl rfl)
   ·cases hp
  |false=>
   rw [hf]at hp;simp only [cond_false,Option.some.injEq]at hp;subst hp;show VLe _ (λi=>(AD s.t d y i).v s.r)
   rw [BO];exact ht.upd (.inl rfl)
theorem putH_r{d:Option Nat}(hp:s.putH E.h d y=some s'):s'.r=s.r/\∃e,d=some e/\∀i,i≠e->s'.t i=s.t i:=by
 unfold St.putH at hp;split at hp
 ·cases hp
 ·rename_i d
  have key: ∀y',∀i,i≠d->AD s.t d y' i=s.t i:=λy' i hi=>by
   unfold AD;cases hx:Nat.beq i d with
   |false=>rfl
   |true=>simp_all
  cases hb:Nat.blt d E.h.n with
  |false=>grind
  |true=>
   rw [hb]at hp;simp only [cond_true]at hp;cases hf:E.h.fz.contains d with
   |true=>
    rw [hf]at hp;split at hp
    ·cases hp;grind
    grind
   |false=>
    rw [hf]at hp;simp [cond_false,Option.some.injEq]at hp;subst hp
    grind
theorem AF(h:Ai (o::g) d=true):o.dst≠some d/\Ai g d=true:=by
 have hc:Ai (o::g) d=((match o.dst with
  |some e=>!Nat.beq e d
  |none=>true)&&Ai g d):=rfl
 rw [hc,bAE]at h;refine⟨λhd=>?_,h.2⟩
 simp_all
theorem Wu{l:List V}{c:Nat}:(l.set c .dead).getD k .dead=if k=c then .dead else l.getD k .dead:=by grind
theorem mvF_v{ops:Array Oper}{y:Nat}{u z:Sl}(ht:VLe t s.den.t)(h:mvF E ops s o=some (y,u,d,z)):
  o.dst=some d/\d<E.h.n/\E.h.fz.contains d=false/\∃ys,(∀p∈ys,I3 ops o p=true)/\mq t o ys (z.v s.r)/\VLe (Az (AH ys t) d (z.v s.r)) (St.den ⟨AD (AD s.t y u) d z,s.r⟩).t/\
   ((∃e∈o.after,Region.binds .any e=true/\AA ops e.on=some y)\/(dX E y=true/\Jw o y=true)):=by
 have own: ∀y,(s.t y).own=true->t y=s.den.t y:=by
  intro y hy;rcases ht y with e|e
  ·exact e
  ·have h5:AE (s.den.t y)=(s.t y).own:=Sl.own_v (s.t y)
   rw [e.1,hy]at h5;cases h5
 have vle: ∀ys (V0:V),(∀x,AH ys t x=if x=y then V0 else t x)->le1 V0 (u.v s.r)->VLe (Az (AH ys t) d (z.v s.r)) (St.den ⟨AD (AD s.t y u) d z,s.r⟩).t:=by
  intro ys V0 hk hu;show VLe _ (λi=>(AD (AD s.t y u) d z i).v s.r)
  rw [BO];refine VLe.upd ?_ (.inl rfl);rw [BO];intro i;rw [hk];unfold Az;split
  ·exact hu
  ·exact ht i
 have kM: ∀ (y:Nat) (tk:Tk) x,AH [(y,tk)] t x=if x=y then kapp tk (t y)else t x:=by
  intro y tk x;unfold AH;by_cases hx:x=y
  ·subst hx
   rw [if_pos rfl];show HE (if x=x then some tk else none) _=_
   rw [if_pos rfl];rfl
  ·rw [if_neg hx]
   show HE (if y=x then some tk else none) _=_
   rw [if_neg (Ne.symm hx)];rfl
 have edge: ∀y,mvB ops o y=true->∃e∈o.after,Region.binds .any e=true/\AA ops e.on=some y:=by
  intro y hy;unfold mvB at hy;rw [bAE]at hy;exact DT hy.2
 have whole: ∀ (y' d':Nat),(o.op= .assign (.tmp y')\/o.op= .move (.tmp y'))->o.dst=some d'->(bif(s.t y').own&&Nat.blt d' E.h.n&& !E.h.fz.contains d'&&(mvB ops o y'||(dX E y'&&mvR ops o y'))then some (y',hdS (s.t y'),d',s.t y')else none)=some (y,u,d,z)->
   o.dst=some d/\d<E.h.n/\E.h.fz.contains d=false/\∃ys,(∀p∈ys,I3 ops o p=true)/\mq t o ys (z.v s.r)/\VLe (Az (AH ys t) d (z.v s.r)) (St.den ⟨AD (AD s.t y u) d z,s.r⟩).t/\
   ((∃e∈o.after,Region.binds .any e=true/\AA ops e.on=some y)\/(dX E y=true/\Jw o y=true)):=by
  intro y' d' hop hdst h;obtain⟨hb,h⟩:=A1 h;simp only [cond_true,Option.some.injEq,Prod.mk.injEq]at h;obtain⟨rfl,rfl,rfl,rfl⟩:=h;simp only [bAE,Bool.not_eq_true']at hb;obtain⟨⟨⟨h1,h2⟩,h3⟩,h4⟩:=hb
  exact⟨hdst,blE h2,h3,[(y',.put (hdV ((s.t y').v s.r)))],λp hp=>by
   rw [List.mem_singleton.1 hp];show(mvB ops o y'||mvR ops o y'||mvC ops o y')=true;refine Bool.or_eq_true _ _▸ .inl (show(mvB ops o y'||mvR ops o y')=true from ?_)
   rw [Bool.or_eq_true]at h4⊢;exact h4.imp id λh=>by rw [bAE]at h;exact h.2,.inl ⟨y',hop,rfl,(own y' h1).symm⟩,vle _ (hdV ((s.t y').v s.r)) (λx=>kM y' (.put (hdV ((s.t y').v s.r))) x) (.inl (hdS_v s.r (s.t y'))),(by
   rw [Bool.or_eq_true]at h4;rcases h4 with h4|h4
   ·exact .inl (edge y' h4)
   ·rw [bAE]at h4
    refine .inr ⟨h4.1,?_⟩;unfold Jw;rcases hop with hop|hop<;>(rw [hop];exact Nat.beq_refl _))⟩
 unfold mvF at h;split at h
 ·rename_i y' d' hop hdst
  exact whole y' d' (.inl hop) hdst h
 ·rename_i y' d' hop hdst
  exact whole y' d' (.inr hop) hdst h
 ·rename_i y' c d' hop hdst
  split at h
  case h_2=>cases h
  rename_i l hl;split at h
  case h_2=>cases h
  rename_i q hq;split at h
  case h_2=>cases h
  rename_i z' hz;obtain⟨hb,h⟩:=A1 h;simp only [cond_true,Option.some.injEq,Prod.mk.injEq]at h;obtain⟨rfl,rfl,rfl,rfl⟩:=h;simp only [bAE,Bool.not_eq_true']at hb;obtain⟨⟨⟨h1,h2⟩,h3⟩,h4⟩:=hb;obtain⟨hc,hq'⟩:=List.getElem?_eq_some_iff.1 hq
  -- the part's value
  have hzv:z'.v s.r=(if q.1 then Ac (q.2.map (Cl.v s.r))else(q.2.map (Cl.v s.r)).getD 0 .dead):=by
   obtain⟨b,m⟩:=q;cases b with
   |true=>cases hz;rfl
   |false=>cases m with
    |nil=>cases hz
    |cons a m=>cases hz;rfl
  obtain⟨L,hL⟩: ∃L:List V,L=l.map λp=>if p.1 then Ac (p.2.map (Cl.v s.r))else(p.2.map (Cl.v s.r)).getD 0 .dead:=⟨_,rfl⟩
  have hLc:L.getD c .dead=z'.v s.r:=by
   rw [hL,hzv];simp [List.getElem?_map,hq]
  have hcL:c<L.length:=by rw [hL];simpa using hc
  have hden:s.den.t y'=C8 L:=by
   show(s.t y').v s.r=_;rw [hl,hL];rfl
  have hown:(s.t y').own=true:=by
   have h5:AE (s.den.t y')=(s.t y').own:=Sl.own_v (s.t y');rw [<-h5,hden];have h6:AE (z'.v s.r)=true:=by rw [Sl.own_v];exact h1
   show AE (V.many .tu L.length λk=>L.getD k .dead)=true
   simp only [AE];rw [List.any_eq_true];exact⟨c,List.mem_range.2 hcL,by rw [hLc];exact h6⟩
  have hty:=own y' hown;refine⟨hdst,blE h2,h3,[(y',.part c)],λp hp=>by rw [List.mem_singleton.1 hp];exact h4,.inr ⟨y',c,L.length,λk=>L.getD k .dead,hop,rfl,hty.trans hden,hcL,hLc.symm⟩,vle _ _ (λx=>kM y' (.part c) x) (.inl ?_),?_⟩
  ·rw [hty,hden]
   show NF c (V.many .tu L.length λk=>L.getD k .dead)=C8 ((l.set c (false,[])).map λp=>if p.1 then Ac (p.2.map (Cl.v s.r))else(p.2.map (Cl.v s.r)).getD 0 .dead)
   rw [List.map_set,<-hL];show V.many _ _ _=V.many _ (L.set c V.dead).length _;rw [List.length_set]
   congr 1
   funext k
   exact Wu.symm
  ·unfold exB at h4
   rw [bAE]at h4;exact .inl (DT h4.2)
 ·cases h
theorem Qh{f:FuncId}{xs:Array Operand}(h:Ia op=some (f,xs)): ∃ats,op= .call ⟨.value (.func f),xs,ats⟩:=by
 unfold Ia at h;split at h
 case h_2=>grind
 rename_i c;obtain⟨callee,args,ats⟩:=c;split at h
 case h_2=>grind
 simp_all
theorem Uv{l:List Operand}(hk:k<l.length)(hik:i≠k)(h:l[i]? =some x):x∈Ct k l:=by
 rcases Nat.lt_or_ge i k with hlt|hge
 ·exact List.mem_of_getElem? (by rw [NN hlt hk];omega)
 ·obtain⟨j,rfl⟩: ∃j,i=j+1:=⟨i-1,by omega⟩
  exact List.mem_of_getElem? (i:=j) (by rw [NO (by omega) hk];grind)
theorem MG(hU: ∀e∈Us,e.OK P){okf:Nat->Bool}{sl:Nat->Nat}{Al:Nat->Nat->Prop}(hal: ∀z,sl z=z\/Al z (sl z))(ht:VLe t s.den.t)(h:Lp hh okf sl Us s o=some A){u:A.α}(hu:A.o=some u):
  ∃v r,Uc o.op=true/\LQ P hh.n s.den.σ Al o t [(A.y,.put v)] r/\VLe (Ih o.dst r (AH [(A.y,.put v)] t)) (St.den ⟨AD (AD s.t A.y (A.u u)) A.d (A.z u),s.r⟩).t/\o.dst=some A.d/\A.y≠A.d/\A.y<hh.n/\∃f xs e z,Ia o.op=some (f,xs)/\Jy Us f=some e/\xs.toList[e.S.k]? =some (.tmp z)/\sl z=A.y/\okf z=true:=by
 unfold Lp at h;split at h
 case h_2=>cases h
 rename_i f xs d hop hd;split at h
 case h_2=>cases h
 rename_i e he;split at h
 case h_2=>cases h
 rename_i zk hk;split at h
 case h_2=>cases h
 rename_i t0 dd x hy;obtain⟨y,hyz⟩: ∃y,sl zk=y:=⟨_,rfl⟩;simp only [hyz]at h hy;split at h
 case isFalse=>cases h
 rename_i hte;subst hte;generalize hB:(Nat.beq dd e.S.d&&Nat.blt d hh.n&&Nat.blt y hh.n&& !Nat.beq y d&&okf zk&&Db e.S.rs&&((Ct e.S.k xs.toList).map s.ev).all uok&&(Ct e.S.k xs.toList).all s.liveX)=B at h;cases B with
 |false=>cases h
 |true=>
 simp only [bAE,Bool.not_eq_true']at hB;obtain⟨⟨⟨⟨⟨⟨⟨h1,h2⟩,h3⟩,h4⟩,h6⟩,h7⟩,h8⟩,h9⟩:=hB;simp only [cond_true]at h;split at h
 case h_2=>cases h
 rename_i z hz;cases h;obtain⟨⟨hcall,hSok,hft⟩,hfe⟩:=PY hU he;have hop0:=hop;obtain⟨ats,hop⟩:=Qh hop;have hdd:=bqE h1;have hyd:y≠d:=λe=>by rw [e,Nat.beq_refl]at h4;cases h4
 have hks:e.S.k<xs.toList.length:=(List.getElem?_eq_some_iff.1 hk).1;have hu:N3 (bif e.S.eat then true else Aag e.S.t x) (e.g z x) none=some u:=hu;obtain⟨hho,hu⟩:=A1 hu;have hu:e.g z x=some u:=hu;have hpos:0<e.S.d:=by
  unfold AaR.ok at hSok;simp only [bAE]at hSok;exact blE hSok.1.1
 have hnd: ∃s sz n f,cV e.S.t e.S.d x= .nd s true sz n f:=by
  unfold AaR.ok at hSok;simp only [bAE]at hSok;exact treeND hpos hSok.2
 have hhold:KK (cV e.S.t e.S.d x)\/(bif e.S.eat then V.dead else cV e.S.t e.S.d u.2)= .dead:=by
  cases he:e.S.eat with
  |true=>exact .inr rfl
  |false=>
   rw [he]at hho;exact .inl (Aaf hpos hho)
 have hty:t y=cV e.S.t e.S.d x:=by
  have e1:s.den.t y=cV e.S.t e.S.d x:=by
   show(s.t y).v s.r=_;rw [hy,hdd];rfl
  rcases ht y with e2|⟨e2,_⟩
  ·rw [e2,e1]
  ·obtain⟨_,_,_,_,e3⟩:=hnd
   rw [e1,e3]at e2;cases e2
 obtain⟨k1,k2⟩:=Zk hks hz h8;have hc:=hft z x u hu;rw [hfe]at hcall hc;have hzy:zk=y\/Al zk y:=by
  rcases hal zk with h|h
  ·exact .inl (h.symm.trans hyz)
  ·rw [hyz]at h;exact .inr h
 have hlq:=Yz (Al:=Al) (P:=P) (N:=hh.n) (σ:=s.den.σ) (t:=t) hop hd (blE h2) (blE h3) hyd hcall (by rw [<-Array.getElem?_toList];exact hk) hzy (Sub.of_eq hty) hnd hhold (by simpa using k1) (λi x' hik hx=>by
  have hx:xs.toList[i]? =some x':=by rw [Array.getElem?_toList];exact hx
  have hl:=aET.1 h9 x' (Uv hks hik hx);have hev:Ms.ev ⟨t,s.den.σ⟩ x'=s.den.ev x':=(ht.ev (σ:=s.den.σ) x').resolve_right λe=>We hl e.1
  rw [hev];exact k2 i x' hik hx) hc
 have e2:AH [(y,.put (bif e.S.eat then .dead else cV e.S.t e.S.d u.2))] t=Az t y (bif e.S.eat then .dead else cV e.S.t e.S.d u.2):=by
  funext i
  unfold AH Az;by_cases hi:i=y
  ·subst hi
   rw [if_pos rfl];show HE (if i=i then some (.put _)else none) _=_
   rw [if_pos rfl];rfl
  ·rw [if_neg hi]
   show HE (if y=i then some (.put _)else none) _=_
   rw [if_neg (Ne.symm hi)];rfl
 have e3: ∀Z:Sl,(St.den ⟨AD (AD s.t y (bif e.S.eat then Sl.one .dead else .one (.c e.S.t e.S.d u.2))) d Z,s.r⟩).t=Az (Az s.den.t y (bif e.S.eat then .dead else cV e.S.t e.S.d u.2)) d (Z.v s.r):=by
  intro Z;show(λi=>(AD (AD s.t y _) d _ i).v s.r)=_
  rw [BO]
  congr 1
  show(λi=>(AD s.t y _ i).v s.r)=_
  rw [BO]
  congr 1
  cases e.S.eat<;>rfl
 have e4:(Mq true e.S.rs u.1).v s.r=VD e.S.rs u.1:=by rw [Pu _ _ _ h7,Jk]
 have hfz: ∀v:V,AE (Go.Ve.frz v)=false:=by
  intro v
  induction v with
  |many t n f ih=>show((List.range n).any λk=>AE (Go.Ve.frz (f k)))=false;rw [List.any_eq_false];intro k _;rw [ih k];simp
  |nd=>rfl
  |_=>rfl
 cases hf:hh.fz.contains d with
 |false=>
  refine⟨_,_,by rw [hop];rfl,hlq,?_,hd,hyd,blE h3,f,xs,e,zk,hop0,he,hk,hyz,h6⟩
  show VLe _ (St.den ⟨AD (AD s.t y (bif e.S.eat then Sl.one .dead else .one (.c e.S.t e.S.d u.2))) d (bif false then Ye (Mq true e.S.rs u.1)else Mq true e.S.rs u.1),s.r⟩).t;rw [e3,hd,e2];show VLe (Az _ d _) (Az _ d ((Mq true e.S.rs u.1).v s.r));rw [e4];exact VLe.upd (ht.upd (.inl rfl)) (.inl rfl)
 |true=>
  refine⟨_,_,by rw [hop];rfl,hlq.frzR hd (blE h2),?_,hd,hyd,blE h3,f,xs,e,zk,hop0,he,hk,hyz,h6⟩
  show VLe _ (St.den ⟨AD (AD s.t y (bif e.S.eat then Sl.one .dead else .one (.c e.S.t e.S.d u.2))) d (bif true then Ye (Mq true e.S.rs u.1)else Mq true e.S.rs u.1),s.r⟩).t;rw [e3,hd,e2];show VLe (Az _ d _) (Az _ d ((Ye (Mq true e.S.rs u.1)).v s.r));refine VLe.upd (ht.upd (.inl rfl)) ?_;unfold Ye;cases hz2:(Mq true e.S.rs u.1).frz with
  |none=>exact .inr ⟨rfl,hfz _⟩
  |some z2=>
   left;show _=z2.v s.r;rw [<-e4];exact Sl.frz_v hz2
theorem Xs(hU: ∀e∈Us,e.OK P){ops:Array Oper}(ht:VLe t s.den.t){dx:Nat->Bool}(h:YE hh dx Us ops s o=some A){u:A.α}(hu:A.o=some u):
  ∃ys r,(∀p∈ys,I3 ops o p=true\/Qy hh ops o p=true)/\Uc o.op=true/\LQ P hh.n s.den.σ (AlP hh ops o) o t ys r/\VLe (Ih o.dst r (AH ys t)) (St.den ⟨AD (AD s.t A.y (A.u u)) A.d (A.z u),s.r⟩).t/\o.dst=some A.d/\∃f xs e z,Ia o.op=some (f,xs)/\Jy Us f=some e/\xs.toList[e.S.k]? =some (.tmp z)/\Vo hh ops o z=A.y/\okU hh dx ops o z=true:=by
 obtain⟨v,r,h1,h2,h3,h4,_,_,f,xs,e,z,g1,g2,g3,g4,g5⟩:=MG hU (λz=>by
  unfold Vo;cases hs:alS hh ops o z with
  |none=>exact .inl rfl
  |some y=>exact .inr (alS_v hs)) ht h hu
 refine⟨_,r,λp hp=>?_,h1,h2,h3,h4,f,xs,e,z,g1,g2,g3,g4,g5⟩
 rw [List.mem_singleton.1 hp];unfold okU at g5;unfold Vo at g4;cases hs:alS hh ops o z with
 |none=>
  rw [hs]at g4 g5;have g4:z=A.y:=g4;left;show(mvB ops o A.y||mvR ops o A.y||mvC ops o A.y)=true
  grind
 |some y=>
  rw [hs]at g4 g5;have g4:y=A.y:=g4;rw [g4]at g5;exact .inr g5
theorem lqF_v(hE:EOK P E){ops:Array Oper}{pu ds:Option (Nat×Sl)}(ht:VLe t s.den.t)(h:lqF E ops s o=some (js,pu,ds))(hmo:o∈ops.toList):
  ∃ys r,(∀p∈ys,I3 ops o p=true)/\Uc o.op=true/\LQ P E.h.n s.den.σ (AlP E.h ops o) o t ys r/\VLe (Ih o.dst r (AH ys t)) (St.den ⟨YJ ds (YJ pu (Cv js s.t)),s.r⟩).t/\
   (∀i,Ai ops.toList i=true->yB E ops i=false->o.dst≠some i->YJ ds (YJ pu (Cv js s.t)) i=s.t i):=by
 have own: ∀y,AE (t y)=(s.t y).own:=by
  intro y;have h5:AE (s.den.t y)=(s.t y).own:=Sl.own_v (s.t y);rcases ht y with e|⟨e1,e2⟩
  ·rw [e];exact h5
  ·rw [e1]at h5;rw [e2,<-h5];rfl
 have hev: ∀x,s.den.ev x≠.dead->Ms.ev ⟨t,s.den.σ⟩ x=s.den.ev x:=λx hx=>((ht.ev (σ:=s.den.σ) x).resolve_right λe=>hx e.1)
 have edge: ∀y,mvB ops o y=true->∃e∈o.after,Region.binds .any e=true/\AA ops e.on=some y:=by
  intro y hy;unfold mvB at hy;rw [bAE]at hy;exact DT hy.2
 have notW: ∀y i,Ai ops.toList i=true->mvB ops o y=true->i≠y:=by
  rintro y i hn hy rfl
  obtain⟨e,_,_,hed⟩:=edge i hy;unfold AA at hed;rw [Option.bind_eq_some_iff]at hed;obtain⟨ok,hok,hokd⟩:=hed;have hmem:ok∈ops.toList:=by
   rw [<-Array.getElem?_toList]at hok;exact List.mem_of_getElem? hok
  have:Ai [ok] i=true:=by
   unfold Ai at hn⊢;rw [aET]at hn⊢;exact λo ho=>hn o (by rw [List.mem_singleton.1 ho];exact hmem)
  exact(AF this).1 hokd
 have deadN: ∀ (js:List Nat) i,(∀y∈js,mvB ops o y=true)->Ai ops.toList i=true->Cv js s.t i=s.t i:=by
  intro js i hj hn;unfold Cv;have:js.contains i=false:=by
   cases hc:js.contains i with
   |false=>rfl
   |true=>exact absurd rfl (notW i i hn (hj i (by simpa using hc)))
  rw [this];rfl
 have kill: ∀ (js:List Nat) (xs:List Operand),xs.map (H0 t)=xs.map (KG s)->js=jsO (xs.map (KG s))->VLe (AH ((A4 t xs).map λy=>(y,.all)) t) (λi=>(Cv js s.t i).v s.r):=by
  intro js xs hx hj i;rw [CU,Cm hx,<-hj];show le1 _ ((bif js.contains i then Sl.one Cl.dead else s.t i).v s.r);by_cases hi:i∈js
  ·have:js.contains i=true:=by simpa using hi
   rw [if_pos hi,this];exact .inl rfl
  ·have:js.contains i=false:=by simpa using hi
   rw [if_neg hi,this];exact ht i
 unfold lqF at h;split at h
 case h_4=>cases h
 ·-- a struct
  rename_i ty ps d hop hdst;obtain⟨xs,hxs⟩: ∃xs,xs=ps.toList.map (·.2):=⟨_,rfl⟩
  rw [<-hxs]at h;have hmap:=PL own xs;obtain⟨hb,h⟩:=A1 h;simp only [bAE]at hb;obtain⟨⟨h1,h2⟩,h3⟩:=hb;have h3:d<E.h.n:=blE h3
  have hmv: ∀y∈jsO (xs.map (KG s)),mvB ops o y=true:=by
   intro y hy;split at h2
   ·cases h2
   ·rename_i a l e;rw [e]at hy;exact aET.1 h2 y hy
  split at h
  case h_2=>cases h
  rename_i i hi;obtain⟨hag,h⟩:=A1 h;split at h
  case h_2=>cases h
  rename_i l hl;cases h;obtain⟨k1,k2⟩:=Ls (ev:=Ms.ev ⟨t,s.den.σ⟩) _ _ _ (λp _=>hev p.2) hl
  rw [IW]at k2;have hbi:=hE.Θ.bd hi;rw [hag]at hbi;obtain⟨l',hl'⟩: ∃l',l'=(bif E.h.fz.contains (2000000+d)then Ub (Am i.ty 0 i.ty.dflt) l else l):=⟨_,rfl⟩
  have hsub:Sub (Ac (l.map (Cl.v s.r))) (Ac (l'.map (Cl.v s.r))):=by
   rw [hl'];cases E.h.fz.contains (2000000+d)with
   |false=>exact Sub.refl _
   |true=>
    show Sub (V.many _ _ _) (V.many _ _ _);refine⟨λk=>((Ub (Am i.ty 0 i.ty.dflt) l).map (Cl.v s.r)).getD k .dead,by simp [LU],λk _=>V4 s.r _ _ k⟩
  rw [<-hl'];refine⟨_,_,λp hp=>?_,by rw [hop];rfl,(YB (Al:=AlP E.h ops o) hop hdst h3 hbi (by rw [<-hxs,hmap];exact h1) k1 k2).sub (λ_ h=>h) (λ_ _=>Sub.refl _) hsub,?_,λi hn hx hd=>?_⟩
  ·rw [<-hxs,Cm hmap]at hp
   obtain⟨y,hy,rfl⟩:=List.mem_map.1 hp;exact hmv y hy
  ·rw [hdst,<-hxs]
   show VLe (Az _ d (Ac (l'.map (Cl.v s.r)))) (λi=>(AD (Cv _ s.t) d (.agg l') i).v s.r)
   rw [BO];exact(kill _ xs hmap rfl).upd (.inl rfl)
  ·show AD (Cv _ s.t) d _ i=_
   unfold AD;rw [Br λe=>hd (by rw [hdst,e])]
   exact deadN _ i hmv hn
 ·-- a slice's literal
  rename_i ty n ps d hop hdst;obtain⟨xs,hxs⟩: ∃xs,xs=ps.toList.map (·.2):=⟨_,rfl⟩
  rw [<-hxs]at h;have hmap:=PL own xs;obtain⟨hb,h⟩:=A1 h;simp only [bAE]at hb;obtain⟨⟨h1,h2⟩,h3⟩:=hb;have h3:d<E.h.n:=blE h3
  have hmv: ∀y∈jsO (xs.map (KG s)),mvB ops o y=true:=by
   intro y hy;split at h2
   ·cases h2
   ·rename_i a l e;rw [e]at hy;exact aET.1 h2 y hy
  split at h
  case h_2=>cases h
  rename_i j hj;obtain⟨e,hsl,_⟩:=CV hE.Θ hj;obtain⟨hb2,h⟩:=A1 h;simp only [bAE]at hb2;have hw:=Kf hb2.1;have hnw:=blE hb2.2;split at h
  case h_2=>cases h
  rename_i l hl;obtain⟨hk,h⟩:=A1 h;split at h
  case h_2=>cases h
  rename_i zs hzs;cases h;obtain⟨k1,k2⟩:=Ls (ev:=Ms.ev ⟨t,s.den.σ⟩) _ _ _ (λp _=>hev p.2) hl
  rw [VE s.r j.ty n hw]at k2;obtain⟨p1,p2,p3⟩:=OE s.r n _ zs hzs
  have hsub:Sub (.nd true true j.ty.w n λi k=>(l.map (Cl.v s.r)).getD (i*j.ty.w+k) .dead) (cV (.sl j.ty) (j.sd+1) zs):=by
   show Sub _ (V.nd true true j.ty.w zs.length _);rw [p1];refine⟨_,rfl,λi k hi hk=>?_⟩
   have:=p3 i k hi hk;rw [List.map_map]at this;have e:(Cl.v s.r∘fit j.sd)=Cl.v s.r:=funext λy=>(fitO_v _ s.r y).1
   rw [e]at this;exact this
  refine⟨_,_,λp hp=>?_,by rw [hop];rfl,(Mo (Al:=AlP E.h ops o) hop hdst h3 hsl hw hnw (by rw [<-hxs,hmap];exact h1) k1 k2 ?_).sub (λ_ h=>h) (λ_ _=>Sub.refl _) hsub,?_,λi hn hx hd=>?_⟩
  ·rw [<-hxs,Cm hmap]at hp
   obtain⟨y,hy,rfl⟩:=List.mem_map.1 hp;exact hmv y hy
  ·intro v hv
   obtain⟨y,hy,rfl⟩:=List.mem_map.1 hv;exact(Wj (aET.1 hk y hy)).1
  ·rw [hdst,<-hxs]
   show VLe (Az _ d _) (λi=>(AD (Cv _ s.t) d _ i).v s.r)
   rw [BO];exact(kill _ xs hmap rfl).upd (.inl rfl)
  ·show AD (Cv _ s.t) d _ i=_
   unfold AD;rw [Br λe=>hd (by rw [hdst,e])]
   exact deadN _ i hmv hn
 ·-- a store
  rename_i ty p x hop hdst;split at h
  case h_2=>cases h
  rename_i lp l i hp hl hi;obtain⟨hb,h⟩:=A1 h;simp only [cond_true,Option.some.injEq,Prod.mk.injEq]at h;obtain⟨rfl,rfl,rfl⟩:=h;simp only [bAE,Bool.or_eq_true]at hb;obtain⟨⟨⟨⟨⟨⟨h1,h2⟩,h3⟩,h4⟩,h5⟩,h6⟩,h7⟩:=hb;have h2:p<E.h.n:=blE h2;have h3:=bqE h3;have h4:=bqE h4;obtain⟨y,hy,hyl⟩:=Option.bind_eq_some_iff.1 hl;obtain⟨g1,g2,g3⟩:=Qg (r:=s.r) hyl;have hx:Ms.ev ⟨t,s.den.σ⟩ x=y.v s.r:=by
   rw [<-AZ hy];refine hev x ?_;rw [AZ hy];intro e;rw [e]at g1;cases g1
  have htp:t p=A7 true (lp.map Cl.v0):=by
   have e:s.den.t p=A7 true (lp.map Cl.v0):=newC_v hp s.r;rcases ht p with h|⟨h,_⟩
   ·rw [h,e]
   ·rw [e]at h;cases h
  have hxp:x≠.tmp p:=by
   rintro rfl
   have h7:(!Nat.beq p p)=true:=h7;rw [Nat.beq_refl]at h7;cases h7
  have hmap:=PL own [x];have hlv:l.map (Cl.v s.r)=l.map Cl.v0:=List.map_congr_left λc hc=>(Wj (aET.1 h5 c hc)).2
  have hmv: ∀y∈jsO ([x].map (KG s)),mvB ops o y=true:=aET.1 h6;have hti:=hE.Θ.ty hi
  have hlq:=YA (Al:=AlP E.h ops o) (P:=P) (N:=E.h.n) (σ:=s.den.σ) (t:=t) hop hdst hti htp (by simpa using h3) h2 hxp (by rw [hx];exact g1) (by rw [hx,g2];simpa using h4)
   (by
    rw [hx,g2];intro v hv;obtain⟨c,hc,rfl⟩:=List.mem_map.1 hv;exact(Wj (aET.1 h5 c hc)).1)
   (by
    rw [hx,g2];intro v hv;obtain⟨c,hc,rfl⟩:=List.mem_map.1 hv;exact g3 c hc)
  rw [hx,g2,hlv]at hlq;have hnp:p∉A4 t [x]:=by
   intro hm;rw [Cm hmap]at hm;cases x with
   |tmp z=>
    have hz:z≠p:=λe=>hxp (by rw [e])
    have hm:p∈jsO [bif(s.t z).own then some z else none]:=hm;cases ho:(s.t z).own with
    |true=>rw [ho]at hm;exact hz (List.mem_singleton.1 hm).symm
    |false=>rw [ho]at hm;cases hm
   |const v=>cases hm
   |global g=>cases hm
   |func f=>cases hm
  have hsub:Sub (A7 true (l.map Cl.v0)) (A7 true ((Ub lp l).map Cl.v0)):=by
   unfold A7;have e:((Ub lp l).map Cl.v0).length=(l.map Cl.v0).length:=by simp [LU]
   rw [e];refine⟨_,rfl,λi k hi hk=>?_⟩
   obtain rfl:i=0:=by omega
   exact YR lp l k
  refine⟨(p,.put (A7 true ((Ub lp l).map Cl.v0)))::(A4 t [x]).map λy=>(y,.all),.dead,λq hq=>?_,by rw [hop];rfl,hlq.sub (λz hz=>?_) (λz v=>?_) (Sub.refl _),?_,λi hn hx hd=>?_⟩
  ·rcases List.mem_cons.1 hq with rfl|hq
   ·show(mvB ops o p||mvR ops o p||mvC ops o p)=true
    rcases h1 with h1|h1
    ·rw [h1];rfl
    ·rw [h1.2,Bool.or_true];rfl
   ·rw [Cm hmap]at hq
    obtain⟨y,hy,rfl⟩:=List.mem_map.1 hq;exact hmv y hy
  ·by_cases hzp:z=p
   ·subst hzp;rw [Hl];simp
   ·rw [Hk hzp]at hz⊢;exact hz
  ·by_cases hz:z=p
   ·subst hz;rw [Hl,Hl];exact hsub
   ·rw [Hk hz,Hk hz];exact Sub.refl _
  ·rw [hdst]
   show VLe (AH _ t) (λi=>(AD (Cv _ s.t) p (.new (Ub lp l)) i).v s.r)
   rw [BO];have hk:=kill _ [x] hmap rfl;intro i;unfold Az;by_cases hi:i=p
   ·subst hi
    rw [if_pos rfl];unfold AH;rw [Hl];exact .inl rfl
   ·rw [if_neg hi]
    have:=hk i;unfold AH at this⊢;rw [Hk hi];exact this
  ·show AD (Cv _ s.t) p _ i=_
   unfold AD;have hip:i≠p:=by
    rcases h1 with h1|h1
    ·exact notW p i hn h1
    ·rintro rfl
     have:yB E ops i=true:=by
      unfold yB;refine List.any_eq_true.2 ⟨o,hmo,?_⟩;have e:stB o i=true:=by unfold stB;rw [hop];exact Nat.beq_refl i
      rw [h1.1,e,Bool.or_true];rfl
     rw [hx]at this;cases this
   rw [Br hip];exact deadN _ i hmv hn
theorem own_le(ht:VLe t s.den.t)(y:Nat):AE (t y)=(s.t y).own:=by
 have h5:AE (s.den.t y)=(s.t y).own:=Sl.own_v (s.t y);rcases ht y with e|⟨e1,e2⟩
 ·grind
 ·rw [e1]at h5;rw [e2,<-h5];rfl
theorem Z0{ops:Array Oper}{y:Nat}(hn:Ai ops.toList i=true)(hy:mvB ops o y=true):i≠y:=by
 rintro rfl
 unfold mvB at hy;rw [bAE]at hy;obtain⟨e,_,_,hed⟩:=DT hy.2;unfold AA at hed;rw [Option.bind_eq_some_iff]at hed;obtain⟨ok,hok,hokd⟩:=hed;have hmem:=by
  rw [<-Array.getElem?_toList]at hok;exact List.mem_of_getElem? hok
 have:Ai [ok] i=true:=by
  unfold Ai at hn⊢
  grind
 exact(AF this).1 hokd
theorem Aav{ops:Array Oper}(hj: ∀y∈js,mvB ops o y=true)(hn:Ai ops.toList i=true):Cv js s.t i=s.t i:=by
 unfold Cv;have:js.contains i=false:=by
  cases hc:js.contains i with
  |false=>rfl
  |true=>exact absurd rfl (Z0 hn (hj i (by grind)))
 grind
theorem Aau(ht:VLe t s.den.t){xs:List Operand}(hx:xs.map (H0 t)=xs.map (KG s))(hj:js=jsO (xs.map (KG s))):VLe (AH ((A4 t xs).map λy=>(y,.all)) t) (λi=>(Cv js s.t i).v s.r):=by
 intro i;rw [CU,Cm hx,<-hj];show le1 _ ((bif js.contains i then Sl.one Cl.dead else s.t i).v s.r);by_cases hi:i∈js
 ·have:js.contains i=true:=by grind
  rw [if_pos hi,this];exact .inl rfl
 ·have:js.contains i=false:=by grind
  rw [if_neg hi,this];exact ht i
def onlyS(s:St)(y:Operand):St:=⟨λi=>match y with
 | .tmp z=>bif Nat.beq i z then s.t i else .one .dead
 |_=>.one .dead,s.r⟩
theorem Od{N:Nat}(ht:VLe t s.den.t){x y:Operand}{ys:List ty.T}(hyo:y∈op.operands)(h:UM s ty (s.ev y)=some (d,ys)):
  ∀ (C:Ctx) (ρ:Nat->Value) (F:Nat->Nat->Prop) (a:Act) (w:World) (D:Nat->Prop) (T:Nat->Nat->Prop) (t':Nat->V),(∀z∈DP op,t' z=t z)->PR C N s.den.σ ρ F t' a w D T->
   ∃Fy,UF D w ty.w ys.length (λi k=>(tyV ty d (ys.getD i ty.dflt)).getD k .dead) (a.eval y) Fy/\(∀i k c,i<ys.length->k<ty.w->Fy i k c->opF t' T [x,y] 1 c)/\
    ∀i k i' k' c,i<ys.length->k<ty.w->i'<ys.length->k'<ty.w->(i≠i'\/k≠k')->Fy i k c->¬Fy i' k' c:=by
 intro C ρ F a w D T t' hag hp;have hev: ∀v,s.ev y=some v->v.v s.r≠.dead->Ms.ev ⟨t',s.den.σ⟩ y=v.v s.r:=by
  intro v hv hne;rw [<-AZ hv]at hne⊢;have h1:Ms.ev ⟨t,s.den.σ⟩ y=s.den.ev y:=((ht.ev (σ:=s.den.σ) y).resolve_right λe=>hne e.1)
  rw [<-h1];cases y with
  |tmp z=>exact hag z (C6 hyo)
  |const v=>rfl
  |global g=>rfl
  |func f=>rfl
 unfold UM at h;split at h
 ·rename_i t1 d1 ys1 hy
  split at h
  case isFalse=>cases h
  rename_i e;subst e;obtain⟨hno,h⟩:=A1 h;cases h;have hv:=hev _ hy (by intro e;cases e)
  have hr:=hp.opF_rel (xs:=[x,y]) (j:=1) (x:=y) rfl;rw [hv]at hr;exact VL (R:=Ag s.den.σ ρ w) hr λi k hi hk=>C5 _ _ _ k hno hk
 ·rename_i hne
  split at h
  case h_2=>cases h
  rename_i d1 ys1 hy;cases h
  -- the value's slot owns nothing
  obtain⟨s2,hs2d⟩: ∃s2,s2=onlyS s y:=⟨_,rfl⟩;have hσ2:s2.den.σ=s.den.σ:=by rw [hs2d];rfl
  have hs2:s2.ev y=s.ev y:=by
   rw [hs2d];cases y with
   |tmp z=>
    show some (bif Nat.beq z z then s.t z else .one .dead)=some (s.t z);rw [Nat.beq_refl];rfl
   |const v=>rfl
   |global g=>rfl
   |func f=>rfl
  have hdn: ∀z,y= .tmp z->(t' z=s.den.t z/\(s.t z).own=false/\z<N):=by
   intro z hz;subst hz;have hy:UD s ty s.r.length (some (s.t z))=some (d,ys,[]):=hy
   have hnotown:(s.t z).own=false:=by
    have hy:=(WT hy).1;unfold UC at hy;split at hy
    case h_4=>cases hy
    ·rename_i e;rw [Option.some.inj e];rfl
    ·rename_i e;rw [Option.some.inj e];rfl
    ·rename_i e;rw [Option.some.inj e];rfl
   have hlive:(s.t z).v s.r≠.dead:=by
    have hy:=(WT hy).1;unfold UC at hy;split at hy
    case h_4=>cases hy
    ·rename_i e;rw [Option.some.inj e];intro e';cases e'
    ·rename_i e;rw [Option.some.inj e];intro e';cases e'
    ·rename_i e;rw [Option.some.inj e];intro e';cases e'
   have e1:t' z=s.den.t z:=hev (s.t z) rfl hlive;refine⟨e1,hnotown,Nat.lt_of_not_le λhz=>?_⟩
   have:=hp.dd z hz;rw [e1]at this;exact hlive this
  have hden: ∀i,s2.den.t i= .dead\/(s2.den.t i=t' i/\AE (t' i)=false):=by
   intro i;rw [hs2d];cases y with
   |tmp z=>
    show(bif Nat.beq i z then s.t i else .one .dead).v s.r= .dead\/_;by_cases hiz:i=z
    ·subst hiz
     obtain⟨e1,e2,_⟩:=hdn i rfl;right;refine⟨?_,?_⟩
     ·show(bif Nat.beq i i then s.t i else .one .dead).v s.r=_
      rw [Nat.beq_refl,e1];rfl
     ·rw [e1]
      have h5:AE (s.den.t i)=(s.t i).own:=Sl.own_v (s.t i);rw [h5];exact e2
    ·rw [Br hiz];exact .inl rfl
   |const v=>exact .inl rfl
   |global g=>exact .inl rfl
   |func f=>exact .inl rfl
  have hcr:=hp.cr (t2:=s2.den.t) hden;have hdd: ∀i,N<=i->s2.den.t i= .dead:=by
   intro i hi;rcases hden i with h|⟨h,_⟩
   ·exact h
   ·rw [h];exact hp.dd i hi
  have hy2:UD s2 ty s.r.length (s2.ev y)=some (d,ys,[]):=by rw [hs2,hs2d];exact hy
  rw [<-hσ2]at hcr;obtain⟨⟨Fy,h1,h2,h3⟩,_⟩:=Ic (s:=s2) hcr hdd hy2;exact⟨Fy,h1,λi k c hi hk hF=>(by obtain⟨j,hj,_⟩:=h2 i k c hi hk hF;cases hj),h3⟩
theorem Xh(ht:VLe t s.den.t){d' dx:Nat}{xs:List ty.T}(hxs:UN ty d' (s.ev x)=some (dx,xs)):
  Sub (Ms.ev ⟨t,s.den.σ⟩ x) (.nd true true ty.w xs.length λi k=>(tyV ty dx (xs.getD i ty.dflt)).getD k .dead):=by
 have hev: ∀v,s.ev x=some v->v.v s.r≠.dead->Ms.ev ⟨t,s.den.σ⟩ x=v.v s.r:=by
  intro v hv hne;rw [<-AZ hv]at hne⊢;exact(ht.ev x).resolve_right λe=>hne e.1
 unfold UN at hxs;split at hxs
 ·rename_i t1 d1 xs1 hx
  split at hxs
  case isFalse=>grind
  rename_i e;subst e;cases hxs;rw [hev _ hx (by intro e;cases e)]
  exact Sub.refl _
 ·rename_i hx
  cases hxs;rw [hev _ hx (by intro e;cases e)]
  exact .inr ⟨rfl,_,_,_,rfl⟩
 grind
theorem appO_v(hE:EOK P E){ops:Array Oper}{A:AO}(ht:VLe t s.den.t)(h:appO E ops s o=some A)(hA:A.p):
  ∃ys r,(∀p∈ys,I3 ops o p=true)/\Uc o.op=true/\LQ P E.h.n s.den.σ (AlP E.h ops o) o t ys r/\VLe (Ih o.dst r (AH ys t)) (St.den ⟨AD (Cv A.js s.t) A.d A.y,s.r⟩).t/\
   (∀i,Ai ops.toList i=true->o.dst≠some i->AD (Cv A.js s.t) A.d A.y i=s.t i):=by
 unfold appO at h;split at h
 case h_2=>cases h
 rename_i ty x y d hop hdst;have hop:=AaB hop;split at h
 case h_2=>cases h
 rename_i j hj;obtain⟨e,hsl,_⟩:=CV hE.Θ hj;have hmap:=PL (own_le ht) [x,y];obtain⟨hb,h⟩:=A1 h;simp only [bAE]at hb;obtain⟨⟨⟨⟨h1,h2⟩,h3⟩,h4⟩,h5⟩:=hb;have h3:d<E.h.n:=blE h3;have hby:=Kf h4;have hw:=Kf h5
 have hmv: ∀y'∈jsO ([x,y].map (KG s)),mvB ops o y'=true:=by
  intro y' hy;split at h2
  ·cases h2
  ·rename_i a l e;rw [e]at hy;exact aET.1 h2 y' hy
 split at h
 case h_2=>cases h
 rename_i d' ys hys;split at h
 case h_2=>cases h
 rename_i dx xs hxs;obtain⟨hdk,h⟩:=A1 h;cases h;have hA:xs.length+ys.length<=NA j.bytes:=hA
 have hb:(xs.length+ys.length)*j.bytes<=140737488355328:=by
  rw [Nat.mul_comm];exact(Nat.mul_comm _ _▸(Nat.le_div_iff_mul_le hby).1 hA)
 have h63:xs.length+ys.length<=maxLen:=by
  have:xs.length+ys.length<=(xs.length+ys.length)*j.bytes:=Nat.le_mul_of_pos_right _ hby;simp only [maxLen];omega
 have hx:=Xh ht hxs;have ee:tyV j.ty d'=tyV j.ty dx:=funext λz=>CJ _ _ _ z (JP hdk)
 have hread:=Od (N:=E.h.n) (x:=x) ht (op:=o.op) (by rw [hop];simp [Op.operands,Call.operands]) hys
 rw [ee]at hread;have hlq:=W3 (Al:=AlP E.h ops o) (P:=P) (N:=E.h.n) (σ:=s.den.σ) (t:=t) hop hdst h3 hsl hw hx (by rw [hmap];exact h1) hread h63 hb
 have hlq:=hlq.sub (λ_ h=>h) (λ_ _=>Sub.refl _) (Mg rfl rfl (λ_ _ _=>rfl) (λ_ _ _=>rfl))
 dsimp only
 generalize hz:(bif E.h.fz.contains d then Ye (Sl.one (.c (.sl j.ty) (dx+1) (Aay xs ys)))else .one (.c (.sl j.ty) (dx+1) (Aay xs ys)))=z
 have hlq2: ∃r,LQ P E.h.n s.den.σ (AlP E.h ops o) o t ((A4 t [x,y]).map λy=>(y,.all)) r/\le1 r (z.v s.r):=by
  cases hf:E.h.fz.contains d with
  |false=>rw [hf]at hz;subst hz;exact⟨_,hlq,.inl rfl⟩
  |true=>rw [hf]at hz;subst hz;exact⟨_,hlq.frzR hdst h3,Aal (.one (.c (.sl j.ty) (dx+1) (Aay xs ys))) s.r⟩
 obtain⟨r,hlr,hle⟩:=hlq2;refine⟨_,r,λp hp=>?_,by rw [hop];rfl,hlr,?_,λi hn hd=>?_⟩
 ·rw [Cm hmap]at hp
  obtain⟨y',hy,rfl⟩:=List.mem_map.1 hp;exact hmv y' hy
 ·rw [hdst]
  show VLe (Az _ d _) (λi=>(AD (Cv _ s.t) d _ i).v s.r)
  rw [BO];exact(Aau ht hmap rfl).upd hle
 ·show AD (Cv _ s.t) d _ i=_
  unfold AD;rw [Br λe=>hd (by rw [hdst,e])]
  exact Aav hmv hn
theorem Dl{l:List Oper}(h: ∀o∈g,o∈l)(hn:Ai l i=true):Ai g i=true:=by
 unfold Ai at hn⊢
 grind
theorem Z8(h:le1 v v'):AE v=AE v':=by
 rcases h with e|⟨e1,e2⟩
 ·grind
 ·rw [e2,e1];rfl
theorem ZY(h:Ud s x=true):AE (s.den.ev x)=false:=by
 unfold Ud at h;split at h
 ·rename_i y hy
  rw [AZ hy];have h5:AE (y.v s.r)=y.own:=Sl.own_v y
  grind
 grind
theorem Nx: ∀ {ρ:Asm} {c:Nat} {v:Bool},XW ρ c=some v->∃j,(j,c,v)∈ρ
 | [],_,_,h=>by cases h
 |(i,d,u)::ρ,c,v,h=>by
  unfold XW at h;cases hb:Nat.beq d c with
  |true=>
   simp_all
  |false=>
   rw [hb]at h;obtain⟨j,hj⟩:=Nx h
   grind
theorem Hm: ∀ {ρ:Asm} {j:Nat} {v:Bool},Wc ρ j=some v->∃d,(j,d,v)∈ρ
 | [],_,_,h=>by cases h
 |(i,d,u)::ρ,j,v,h=>by
  unfold Wc at h;cases hb:Nat.beq i j with
  |true=>
   simp_all
  |false=>
   rw [hb]at h;obtain⟨d',hd⟩:=Hm h
   grind
def Cy(ops:Array Oper)(ρ:Asm)(S:Nat->V):Prop:=∀x∈ρ,(ops[x.1]?).bind (·.dst)=some x.2.1/\S x.2.1= .c (.bool x.2.2)
theorem HY{ops:Array Oper}{ρ:Asm}{v:Bool}(ht:VLe t s.den.t)(hρ:Cy ops ρ s.den.t)(h:Nn ρ s op=some v)(hK:K (.c (.bool v))):M1 P s.den.σ (Ms.ev ⟨t,s.den.σ⟩) op K:=by
 unfold Nn at h;split at h
 case h_2=>cases h
 rename_i c x y;cases hb:(Ud s x&&Ud s y)with
 |false=>rw [hb]at h;cases h
 |true=>
 rw [hb]at h;rw [bAE]at hb;simp only [cond_true]at h;split at h
 case h_2=>cases h
 rename_i u hu;obtain⟨j,hj⟩:=Nx hu;obtain⟨_,hc⟩:=hρ _ hj;have htc:t c= .c (.bool u):=by
  rcases ht c with e|e
  ·rw [e];exact hc
  ·rw [hc]at e;cases e.1
 have ev: ∀x v,s.den.ev x= .c (.bool v)->Ms.ev ⟨t,s.den.σ⟩ x= .c (.bool v):=λx v hx=>by
  rcases ht.ev (σ:=s.den.σ) x with e|e
  ·rw [e];exact hx
  simp_all
 have ow:=λx hx=>(Z8 (ht.ev (σ:=s.den.σ) x)).trans (ZY hx)
 have hv:=valB_v h;show QY (t c) (Ms.ev ⟨t,s.den.σ⟩ x) (Ms.ev ⟨t,s.den.σ⟩ y) K;rw [htc];refine⟨ow x hb.1,ow y hb.2,λe=>?_,λe=>?_⟩
 ·subst e
  rw [ev x v hv];exact hK
 grind
theorem Wm(h:Z9 (s.t d)=true):s.den.t d=udV:=by
 show(s.t d).v s.r=_;unfold Z9 at h;split at h
 ·rename_i e;rw [e];rfl
 grind
theorem ZR{d:Option Nat}(ht:VLe t s.den.t)(h:CM E.h s d=some s'):s'.r=s.r/\(∀e,d=some e->e<E.h.n)/\(∀i,d≠some i->s'.t i=s.t i/\J7 t d i=t i)/\VLe (J7 t d) s'.den.t/\∀e,d=some e->AE (J7 t d e)=false:=by
 unfold CM at h;split at h
 ·rename_i d
  cases hb:Nat.blt d E.h.n with
  |false=>grind
  |true=>
   rw [hb]at h;cases h;refine⟨rfl,λe he=>by simp_all,λi hi=>⟨?_,if_neg λe=>hi (by grind)⟩,?_,λe he=>?_⟩
   ·show AD s.t d _ i=_
    unfold AD;rw [Br λe=>hi (by grind)];rfl
   ·show VLe (Az t d udV) (λi=>(AD s.t d (.tup []) i).v s.r)
    rw [BO];exact ht.upd (.inl rfl)
   ·cases he
    show AE (Az t d udV d)=false;unfold Az;rw [if_pos rfl];rfl
 ·cases h
  exact⟨rfl,(λe he=>by grind),(λ_ _=>⟨rfl,rfl⟩),ht,λe he=>by grind⟩
theorem setB_v{d:Option Nat}{v:Bool}{K:(Nat->V)->Prop}(ht:VLe t s.den.t)(h:AaI E.h s d v=some s')(hK: ∀t',s'.r=s.r->(∀i,d≠some i->s'.t i=s.t i/\t' i=t i)->VLe t' s'.den.t->(∀e,d=some e->AE (t' e)=false)->K t'):QK E.h d t K (.c (.bool v)):=by
 unfold AaI at h;split at h
 case h_2=>grind
 rename_i d;cases hb:(Nat.blt d E.h.n&& !E.h.fz.contains d)with
 |false=>grind
 |true=>
 rw [hb]at h;rw [bAE,Bool.not_eq_true']at hb;cases h;refine⟨blE hb.1,?_⟩;simp only [hb.2,if_false];refine hK _ rfl (λi hi=>⟨?_,if_neg λe=>hi (by grind)⟩) ?_ λe he=>?_
 ·show AD s.t d _ i=_
  unfold AD;rw [Br λe=>hi (by grind)];rfl
 ·show VLe (Az t d _) (λi=>(AD s.t d (.one (.c .bool 0 v)) i).v s.r)
  rw [BO];exact ht.upd (.inl rfl)
 ·cases he
  unfold Az;rw [if_pos rfl];rfl
variable (hE:EOK P E)
include hE
theorem stepq{R:Type}{s:St}{o:Oper}{f:Sl->Option St}{K:St->Option R}{z:R}{t:Nat->V}{Kt:(Nat->V)->Prop}(ht:VLe t s.den.t)(h:(Zm E s o.type o.op λy=>match f y with
   |some s'=>K s'
   |none=>none)=some z) (hf: ∀y s',f y=some s'->s.putX true E.h o.dst y=some s')
  (hK: ∀s' t' y,s'.r=s.r->(∀i,o.dst≠some i->s'.t i=s.t i/\t' i=t i)->VLe t' s'.den.t->f y=some s'->(∀e,o.dst=some e->(y.own&& !fzD E.h o.dst)=false->AE (t' e)=false)->K s'=some z->Kt t'):qop P s.den.σ (Ms.ev ⟨t,s.den.σ⟩) o.op (QK E.h o.dst t Kt):=by
 obtain⟨hl,y,hq,hy⟩:=HI hE h;split at hy
 case h_2=>grind
 rename_i s' hs';have hp:=hf y s' hs';obtain⟨hr,e,he,hi⟩:=putH_r hp;refine qop_le ht hl (M0 hq λr0 hr0=>⟨y.v s.r,hr0,putH_v hp ht λt' ht' h1 h2=>hK s' t' y hr (λi hn=>⟨hi i λh=>hn (by grind),h1 i hn⟩) ht' hs' h2 hy⟩)
theorem pathg{ops:Array Oper}{z:Bool}{Kt:(Nat->V)->Prop}{rest:List Oper}: ∀ (g:List Oper) (ρ:Asm) (s:St) (t:Nat->V) (K:Asm->St->Option Bool),Cy ops ρ s.den.t->(∀x∈ρ,Ai g x.2.1=true)->VLe t s.den.t->Ck E true ops g ρ s K=some z->
  (∀ρ' s' t',s'.r=s.r->(∀i,Ai g i=true->s'.t i=s.t i/\t' i=t i)->(∀i,Ai g i=false->AE (t' i)=false)->VLe t' s'.den.t->Cy ops ρ' s'.den.t->K ρ' s'=some z->vq P E.h ops s.den.σ rest Kt t')->vq P E.h ops s.den.σ (g++rest) Kt t:=by
 intro g
 induction g with
 |nil=>intro ρ s t K hρ _ ht h hK;exact hK ρ s t rfl (λ_ _=>⟨rfl,rfl⟩) (λi hi=>by cases hi) ht hρ h
 |cons o g ih=>
  intro ρ s t K hρ hnd ht h hK
  have hc: ∀i,Ai (o::g) i=((match o.dst with
   |some e=>!Nat.beq e i
   |none=>true)&&Ai g i):=λ_=>rfl
  unfold Ck at h;split at h
  case h_1=>cases h
  rename_i j want hgo;split at h
  case h_1=>cases h
  rename_i dj hdj;rw [List.cons_append]
  -- what is behind this operation
  have cont: ∀ (ρ1:Asm) (s1:St) (t1:Nat->V),Cy ops ρ1 s.den.t->(∀x∈ρ1,Ai (o::g) x.2.1=true)->s1.r=s.r->(∀i,o.dst≠some i->s1.t i=s.t i/\t1 i=t i)->VLe t1 s1.den.t->(∀e,o.dst=some e->AE (t1 e)=false)->Ck E true ops g ρ1 s1 K=some z->vq P E.h ops s.den.σ (g++rest) Kt t1:=by
   intro ρ1 s1 t1 hρ1 hnd1 hr hi ht1 ho h1;have hσ:s1.den.σ=s.den.σ:=by show s1.r.map Aa.v=s.r.map Aa.v;rw [hr]
   rw [<-hσ];refine ih ρ1 s1 t1 K (λx hx=>⟨(hρ1 x hx).1,?_⟩) (λx hx=>(AF (hnd1 x hx)).2) ht1 h1 λρ2 s2 t2 h2 h3 h3' h4 h5 h6=>?_
   ·show(s1.t x.2.1).v s1.r=_
    rw [(hi _ (AF (hnd1 x hx)).1).1,hr];exact(hρ1 x hx).2
   ·rw [hσ]
    refine hK ρ2 s2 t2 (h2.trans hr) (λi hn=>?_) (λi hn=>?_) h4 h5 h6
    ·obtain⟨n1,n2⟩:=AF hn
     exact⟨(h3 i n2).1.trans (hi i n1).1,(h3 i n2).2.trans (hi i n1).2⟩
    ·by_cases hg2:Ai g i=true
     ·rw [(h3 i hg2).2]
      rw [hc,hg2,Bool.and_true]at hn;split at hn
      ·rename_i e he
       have:e=i:=bqE (by simpa using hn)
       subst this;exact ho e he
      ·cases hn
     ·exact h3' i (by simpa using hg2)
  have pass: ∀ρ1:Asm,Cy ops ρ1 s.den.t->(∀x∈ρ1,Ai (o::g) x.2.1=true)->onS (CM E.h s o.dst) (λs'=>Ck E true ops g ρ1 s' K)=some z->(∀d,o.dst=some d->d<E.h.n)/\vq P E.h ops s.den.σ (g++rest) Kt (J7 t o.dst):=by
   intro ρ1 h1 h2 h3;cases hp:CM E.h s o.dst with
   |none=>rw [hp]at h3;cases h3
   |some s1=>
    rw [hp]at h3;obtain⟨q1,q2,q3,q4,q5⟩:=ZR ht hp;exact⟨q2,cont ρ1 s1 _ h1 h2 q1 q3 q4 q5 h3⟩
  have step: ∀ρ1:Asm,Cy ops ρ1 s.den.t->(∀x∈ρ1,Ai (o::g) x.2.1=true)->Lv E true ρ1 s o (λs'=>Ck E true ops g ρ1 s' K)=some z->qop P s.den.σ (Ms.ev ⟨t,s.den.σ⟩) o.op (QK E.h o.dst t (vq P E.h ops s.den.σ (g++rest) Kt)):=by
   intro ρ1 h1 h2 h3;unfold Lv at h3;split at h3
   ·rename_i v hv
    split at h3
    case h_2=>cases h3
    rename_i s1 hs1;exact HY ht h1 hv ⟨_,Sub.refl _,setB_v ht hs1 λt' q1 q2 q3 q4=>cont ρ1 s1 t' h1 h2 q1 q2 q3 q4 h3⟩
   ·refine stepq hE (f:=λy=>bif y.own&& !fzD E.h o.dst then none else s.putX true E.h o.dst y) (K:=λs'=>Ck E true ops g ρ1 s' K) ht h3 (λy s' hy=>?_) λs' t' y hr hi ht' hfy ho hy=>?_
    ·cases hyo:y.own&& !fzD E.h o.dst with
     |true=>rw [hyo]at hy;cases hy
     |false=>rw [hyo]at hy;exact hy
    have hyo:(y.own&& !fzD E.h o.dst)=false:=by
     cases hyo:y.own&& !fzD E.h o.dst with
     |true=>rw [hyo]at hfy;cases hfy
     |false=>rfl
    exact cont ρ1 s' t' h1 h2 hr hi ht' (λe he=>ho e he hyo) hy
  -- what the guard yields
  have run: ∀v:Bool,s.den.t dj= .c (.bool v)->gv t ops j= .c (.bool v):=λv hv=>by
   unfold gv;rw [hdj];rcases ht dj with e|e
   ·rw [<-hv];exact e
   ·rw [hv]at e;cases e.1
  unfold vq;rw [hgo]
  have known: ∀ (ρ1:Asm) (v:Bool),s.den.t dj= .c (.bool v)->Cy ops ρ1 s.den.t->(∀x∈ρ1,Ai (o::g) x.2.1=true)->(v=want->Lv E true ρ1 s o (λs'=>Ck E true ops g ρ1 s' K)=some z)->(v=(!want)->onS (CM E.h s o.dst) (λs'=>Ck E true ops g ρ1 s' K)=some z)->
    (match gv t ops j with
     | .c (.bool b)=>(b=want->qop P s.den.σ (Ms.ev ⟨t,s.den.σ⟩) o.op (QK E.h o.dst t (vq P E.h ops s.den.σ (g++rest) Kt)))/\(b=(!want)->(∀d,o.dst=some d->d<E.h.n)/\vq P E.h ops s.den.σ (g++rest) Kt (J7 t o.dst))
     |v=>v=udV/\(∀d,o.dst=some d->d<E.h.n)/\vq P E.h ops s.den.σ (g++rest) Kt (J7 t o.dst)):=by
   intro ρ1 v hv h1 h2 h3 h4;rw [run v hv];exact⟨λe=>step ρ1 h1 h2 (h3 e),λe=>pass ρ1 h1 h2 (h4 e)⟩
  cases hu:Z9 (s.t dj)with
  |true=>
   rw [hu]at h;have hgv:gv t ops j=udV:=by
    unfold gv;rw [hdj];have hv:=Wm hu;rcases ht dj with e|e
    ·rw [<-hv];exact e
    ·rw [hv]at e;cases e.1
   obtain⟨p1,p2⟩:=pass ρ hρ hnd h
   have hm:(match gv t ops j with
     | .c (.bool b)=>(b=want->qop P s.den.σ (Ms.ev ⟨t,s.den.σ⟩) o.op (QK E.h o.dst t (vq P E.h ops s.den.σ (g++rest) Kt)))/\(b=(!want)->(∀d,o.dst=some d->d<E.h.n)/\vq P E.h ops s.den.σ (g++rest) Kt (J7 t o.dst))
     |v=>v=udV/\(∀d,o.dst=some d->d<E.h.n)/\vq P E.h ops s.den.σ (g++rest) Kt (J7 t o.dst)):=by
    rw [hgv];exact⟨rfl,p1,p2⟩
   exact hm
  |false=>
   rw [hu]at h;simp only [cond_false]at h;split at h
   ·rename_i v hv
    obtain⟨d',hm⟩:=Hm hv;obtain⟨e1,e2⟩:=hρ _ hm;have e1:some dj=some d':=hdj.symm.trans e1;cases e1;refine known ρ v e2 hρ hnd (λe=>?_) λe=>?_
    ·subst e;simpa using h
    ·subst e;cases want<;>exact h
   ·split at h
    case h_2=>cases h
    rename_i dd b hb;have hbv:s.den.t dj= .c (.bool b):=by show(s.t dj).v s.r=_;rw [hb];rfl
    obtain⟨hn,h⟩:=A1 h
    have hρ1:Cy ops ((j,dj,b)::ρ) s.den.t:=λx hx=>by
     rcases List.mem_cons.1 hx with rfl|hx
     ·exact⟨hdj,hbv⟩
     ·exact hρ x hx
    have hnd1: ∀x∈(j,dj,b)::ρ,Ai (o::g) x.2.1=true:=λx hx=>by
     rcases List.mem_cons.1 hx with rfl|hx
     ·exact hn
     ·exact hnd x hx
    refine known ((j,dj,b)::ρ) b hbv hρ1 hnd1 (λe=>?_) λe=>?_
    ·subst e;cases b<;>exact h
    ·subst e;cases want<;>exact h
theorem Xn{ops:Array Oper}{K:St->Option R}{z:R}{Kt:(Nat->V)->Prop}: ∀ (l:List Seg) (s:St) (t:Nat->V),(∀o∈l.flatMap Seg.ops,o∈ops.toList)->VLe t s.den.t->
  UI E true ops l s K=some z->(∀s' t',s'.r=s.r->(∀i,Ai ops.toList i=true->yB E ops i=false->s'.t i=s.t i)->VLe t' s'.den.t->K s'=some z->Kt t')->vq P E.h ops s.den.σ (l.flatMap Seg.ops) Kt t:=by
 intro l
 induction l with
 |nil=>intro s t _ ht h hK;exact hK s t rfl (λ_ _ _=>rfl) ht h
 |cons sg l ih=>
  intro s t hsub ht h hK;rw [List.flatMap_cons]at hsub;have hsub1: ∀o∈sg.ops,o∈ops.toList:=λo ho=>hsub o (List.mem_append_left _ ho)
  have hsub2: ∀o∈l.flatMap Seg.ops,o∈ops.toList:=λo ho=>hsub o (List.mem_append_right _ ho)
  cases sg with
  |one o=>
   unfold UI at h;split at h
   case h_2=>cases h
   rename_i hg;rw [List.flatMap_cons];show vq P E.h ops s.den.σ (o::l.flatMap Seg.ops) Kt t;unfold vq;rw [hg];cases hal:alM E.h ops o with
   |true=>
    rw [hal]at h;simp only [Bool.and_self,cond_true]at h;split at h
    case h_2=>cases h
    rename_i d hd;obtain⟨hb,h⟩:=A1 h;refine .inr ⟨rfl,d,hd,blE hb,?_⟩;refine ih ⟨AD s.t d (.one .dead),s.r⟩ _ hsub2 ?_ h λs2 t2 h2 h2' h3 h4=>hK s2 t2 h2 (λi hn hx=>?_) h3 h4
    ·show VLe _ (λi=>(AD s.t d (.one .dead) i).v s.r)
     rw [BO];exact ht.upd (.inl rfl)
    ·rw [h2' i hn hx]
     show AD s.t d (.one .dead) i=s.t i;unfold AD;rw [Br λe=>(AF (o:=o) (g:=[]) (Dl (g:=[o]) (λo' ho'=>hsub1 o' ho') hn)).1 (by rw [hd,e])]
     rfl
   |false=>
   rw [hal]at h;simp only [Bool.and_false,cond_false]at h;refine .inl ⟨rfl,?_⟩;have nd: ∀i,Ai ops.toList i=true->o.dst≠some i:=λi hn=>(AF (o:=o) (g:=[]) (Dl (g:=[o]) (λo' ho'=>hsub1 o' ho') hn)).1
   split at h
   ·rename_i y u d z' hmv
    obtain⟨hdst,hdn,hfz,ys,hys,hmq,hvl,hed⟩:=mvF_v ht hmv;refine .inr (.inl ⟨ys,d,z'.v s.r,hdst,hdn,hfz,hys,hmq,?_⟩);refine ih ⟨AD (AD s.t y u) d z',s.r⟩ _ hsub2 hvl h λs2 t2 h2 h2' h3 h4=>hK s2 t2 h2 (λi hn hx=>?_) h3 h4
    rw [h2' i hn hx];have hid:i≠d:=λe=>nd i hn (by rw [hdst,e])
    have hiy:i≠y:=by
     rintro rfl
     rcases hed with⟨e,he,hb,hed⟩|⟨hx1,hx2⟩
     rotate_left
     ·have:yB E ops i=true:=by
       unfold yB;exact List.any_eq_true.2 ⟨o,hsub1 o (List.mem_singleton.2 rfl),by rw [hx1,hx2];rfl⟩
      rw [hx]at this;cases this
     unfold AA at hed;rw [Option.bind_eq_some_iff]at hed;obtain⟨ok,hok,hokd⟩:=hed;have hmem:ok∈ops.toList:=by
      rw [<-Array.getElem?_toList]at hok;exact List.mem_of_getElem? hok
     exact(AF (o:=ok) (g:=[]) (Dl (g:=[ok]) (λo' ho'=>by rw [List.mem_singleton.1 ho'];exact hmem) hn)).1 hokd
    show AD (AD s.t y u) d z' i=s.t i;unfold AD;rw [Br hid];show(bif Nat.beq i y then _ else s.t i)=s.t i;rw [Br hiy];rfl
   split at h
   ·rename_i js pu ds hlq
    obtain⟨ys,r,hys,hne,hq,hvl,hnw⟩:=lqF_v hE ht hlq (hsub1 o (List.mem_singleton.2 rfl));refine .inr (.inr ⟨ys,r,λp hp=>.inl (hys p hp),hne,hq,?_⟩)
    refine ih ⟨YJ ds (YJ pu (Cv js s.t)),s.r⟩ _ hsub2 hvl h λs2 t2 h2 h2' h3 h4=>hK s2 t2 h2 (λi hn hx=>?_) h3 h4
    rw [h2' i hn hx];exact hnw i hn hx (nd i hn)
   split at h
   ·rename_i A ha
    have h: @ite _ A.p A.dec (UI E true ops l ⟨AD (Cv A.js s.t) A.d A.y,s.r⟩ K) none=some z:=h;by_cases hA:A.p
    case neg=>rw [if_neg hA]at h;cases h
    rw [if_pos hA]at h;obtain⟨ys,r,hys,hne,hq,hvl,hnw⟩:=appO_v hE ht ha hA;refine .inr (.inr ⟨ys,r,λp hp=>.inl (hys p hp),hne,hq,?_⟩)
    refine ih ⟨AD (Cv A.js s.t) A.d A.y,s.r⟩ _ hsub2 hvl h λs2 t2 h2 h2' h3 h4=>hK s2 t2 h2 (λi hn hx=>?_) h3 h4
    rw [h2' i hn hx];exact hnw i hn (nd i hn)
   split at h
   ·rename_i A ha
    cases hu:A.o with
    |none=>rw [hu]at h;cases h
    |some u=>
    rw [hu]at h;simp only [Option.bind_some]at h;obtain⟨ys,r,hys,hne,hq,hvl,hdst,f,xs,e,zk,g1,g2,g3,g4,g5⟩:=Xs hE.U ht ha hu;refine .inr (.inr ⟨ys,r,hys,hne,hq,?_⟩);refine ih ⟨AD (AD s.t A.y (A.u u)) A.d (A.z u),s.r⟩ _ hsub2 hvl h λs2 t2 h2 h2' h3 h4=>hK s2 t2 h2 (λi hn hx=>?_) h3 h4
    rw [h2' i hn hx];have hid:i≠A.d:=λe=>nd i hn (by rw [hdst,e])
    have hiy:i≠A.y:=by
     rintro rfl
     have key:ucB E ops o A.y=true->False:=λhu=>by
      have:yB E ops A.y=true:=by
       unfold yB;refine List.any_eq_true.2 ⟨o,hsub1 o (List.mem_singleton.2 rfl),?_⟩;rw [Bool.or_eq_true];exact .inr hu
      rw [hx]at this;cases this
     unfold okU at g5;unfold Vo at g4;unfold ucB at key;rw [g1]at key;simp only [g2,g3]at key;cases hs:alS E.h ops o zk with
     |some y=>
      rw [hs]at g4 key;have g4:y=A.y:=g4;exact key (by rw [g4];exact Nat.beq_refl _)
     |none=>
      rw [hs]at g4 g5 key;have g4:zk=A.y:=g4;have g5:(mvB ops o zk||(dX E zk&&(mvR ops o zk||mvC ops o zk)))=true:=g5;rw [Bool.or_eq_true]at g5;rcases g5 with g5|g5
      ·unfold mvB at g5
       rw [bAE]at g5;obtain⟨e1,he1,_,hed⟩:=DT g5.2;unfold AA at hed;rw [Option.bind_eq_some_iff]at hed;obtain⟨ok,hok,hokd⟩:=hed;have hmem:ok∈ops.toList:=by
        rw [<-Array.getElem?_toList]at hok;exact List.mem_of_getElem? hok
       refine(AF (o:=ok) (g:=[]) (Dl (g:=[ok]) (λo' ho'=>by rw [List.mem_singleton.1 ho'];exact hmem) hn)).1 ?_
       rw [hokd,g4]
      ·rw [bAE]at g5
       exact key (by rw [g5.1,g4];exact Nat.beq_refl _)
    show AD (AD s.t A.y (A.u u)) A.d (A.z u) i=s.t i;unfold AD;rw [Br hid];show(bif Nat.beq i A.y then _ else s.t i)=s.t i;rw [Br hiy];rfl
   refine .inl (stepq hE (f:=λy=>s.putX true E.h o.dst y) ht h (λ_ _ h=>h) λs' t' _ hr hi ht' _ _ hy=>?_)
   have hσ:s'.den.σ=s.den.σ:=by show s'.r.map Aa.v=s.r.map Aa.v;rw [hr]
   rw [<-hσ]
   exact ih s' t' hsub2 ht' hy λs2 t2 h2 h2' h3 h4=>hK s2 t2 (h2.trans hr) (λi hn hx=>by
    rw [h2' i hn hx,(hi i (nd i hn)).1]) h3 h4
  |grp g pk=>
   unfold UI at h;split at h
   case h_2=>cases h
   rename_i d hpd;have hpd2:pk.dst=some d/\pk.guard=none/\d<E.h.n/\E.h.fz.contains d=false:=by
    unfold XP at hpd;split at hpd
    case h_2=>cases hpd
    rename_i d' e1 e2;obtain⟨hb,hpd⟩:=A1 hpd;cases hpd;rw [bAE,Bool.not_eq_true']at hb;exact⟨e1,e2,blE hb.1,hb.2⟩
   obtain⟨e1,e2,h3,h4⟩:=hpd2;cases hv:grpB E true ops s g pk with
   |none=>rw [hv]at h;cases h
   |some v=>
    rw [hv]at h;simp only [Option.bind_some]at h;rw [List.flatMap_cons];show vq P E.h ops s.den.σ ((g++ [pk])++l.flatMap Seg.ops) Kt t;rw [List.append_assoc];refine pathg hE g [] s t _ (λx hx=>by cases hx) (λx hx=>by cases hx) ht hv λρ' s' t' hr hi ho ht' hρ' hs'=>?_
    rw [hr,Nat.beq_refl]at hs';have hs':Nn ρ' s' pk.op=some v:=hs';have hσ:s'.den.σ=s.den.σ:=by show s'.r.map Aa.v=s.r.map Aa.v;rw [hr]
    show vq P E.h ops s.den.σ (pk::l.flatMap Seg.ops) Kt t';unfold vq;rw [e2];refine .inl ⟨?_,.inl ?_⟩
    ·cases hal:alM E.h ops pk with
     |false=>rfl
     |true=>
      obtain⟨_,_,_,hop,_⟩:=Mk hal;rw [hop]at hs';cases hs'
    rw [<-hσ];refine HY ht' hρ' hs' ⟨_,Sub.refl _,?_⟩;rw [e1,hσ];refine⟨h3,?_⟩;simp only [h4,Bool.false_eq_true,if_false]
    refine ih ⟨AD (CN g s.t) d (.one (.c .bool 0 v)),s.r⟩ (Az t' d (.c (.bool v))) hsub2 ?_ h λs2 t2 h2 h2' h3 h4=>hK s2 t2 h2 (λi hn0 hx0=>by
     have hn:Ai ((g++ [pk])++l.flatMap Seg.ops) i=true:=Dl hsub hn0;unfold Ai at hn;rw [List.all_append,List.all_append,bAE,bAE]at hn;rw [h2' i hn0 hx0];show AD (CN g s.t) d (.one (.c .bool 0 v)) i=s.t i;have hid:i≠d:=by
      rintro rfl
      have:=hn.1.2;simp only [List.all_cons,List.all_nil,Bool.and_true,e1,Nat.beq_refl,Bool.not_true]at this;cases this
     unfold AD;rw [Br hid];show CN g s.t i=s.t i;rw [Dq,if_pos (show Ai g i=true from hn.1.1)]) h3 h4
    show VLe _ (λi=>(AD (CN g s.t) d (.one (.c .bool 0 v)) i).v s.r)
    rw [BO];refine VLe.upd ?_ (.inl rfl);intro i;simp only [Dq];by_cases hn:Ai g i=true
    ·rw [if_pos hn,(hi i hn).2];exact ht i
    ·rw [if_neg hn];exact .inr ⟨rfl,ho i (by simpa using hn)⟩
end head
end Go.Ve

