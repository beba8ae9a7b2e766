/- The typed machine: trees get other numbers; the state at the head of a loop. -/
import Derived.Test.YtbbhfpbalccohaaGreatTl
namespace Go.Ve
inductive LK where
 |val (n:Nat) (agg:Bool)
 |ref (id:Nat)
 |ptr (id:Nat)
 |pth (id:Nat) (p:AP)
 |no
def okV:Cl->Bool
 | .c t _ _=>t.one
 |_=>false
def lk:Sl->LK
 | .one (.c t _ _)=>bif t.one then .val 1 false else .no
 | .one (.rf id [])=>.ref id
 | .one (.rp id [] 0 0)=>.ptr id
 | .one (.rf id (a::q))=>.pth id (a::q)
 | .agg l=>bif l.all okV then .val l.length true else .no
 |_=>.no
def dyC:Cl->Option Dy
 | .c t d x=>bif t.one&& !(Cl.c t d x).own then some ⟨t,x⟩else none
 |_=>none
def dyL:List Cl->Option (List Dy)
 | []=>some []
 |y::l=>match dyC y with
  |some z=>match dyL l with
   |some m=>some (z::m)
   |none=>none
  |none=>none
def Dy.cl(y:Dy):Cl:=.c y.t 0 y.x
def dyP:AP->List Dy
 | []=>[]
 |(i,_)::p=>⟨.int .i64,(Int.ofNat i:Int)⟩::dyP p
def Qx:AP->AP->Bool
 | [],[]=>true
 |(_,k)::p,(_,k')::q=>Nat.beq k k'&&Qx p q
 |_,_=>false
def Dy.nat:Dy->Nat
 |⟨.int _,x⟩=>Int.toNat x
 |_=>0
def Uc:AP->List Dy->AP
 | [],_=>[]
 |(_,k)::p,y::cs=>(y.nat,k)::Uc p cs
 |(_,k)::p,[]=>(0,k)::Uc p []
def Wc(k:LK)(y:Sl):Option (List Dy×List (Nat×Nat)):=match k,y with
 | .val _ false,.one c=>match dyC c with
  |some z=>some ([z],[])
  |none=>none
 | .val n true,.agg l=>bif Nat.beq l.length n then(match dyL l with
  |some m=>some (m,[])
  |none=>none)else none
 | .ref id,.one (.rf id' [])=>some ([],[(id,id')])
 | .ptr id,.one (.rp id' [] 0 0)=>some ([],[(id,id')])
 | .pth id p,.one (.rf id' p')=>bif Qx p p' then some (dyP p',[(id,id')])else none
 | .no,_=>some ([],[])
 |_,_=>none
def Q9(t0:Nat->Sl)(t:Nat->Sl):List Nat->Option (List Dy×List (Nat×Nat))
 | []=>some ([],[])
 |d::L=>match Wc (lk (t0 d)) (t d)with
  |some (a,b)=>match Q9 t0 t L with
   |some (a',b')=>some (a++a',b++b')
   |none=>none
  |none=>none
def piF(m:List (Nat×Nat))(i:Nat):Nat:=match m with
 | []=>i
 |(a,b)::m=>bif Nat.beq a i then b else piF m i
def dyA:List Cl->Option (List Dy)
 | []=>some []
 | .c t _ x::l=>bif t.one then(match dyA l with
  |some m=>some (⟨t,x⟩::m)
  |none=>none)else none
 |_::_=>none
def YZ:Ae->Option (List Dy)
 | .arr _ t _ xs=>some [⟨.sl t,xs⟩]
 | .obj _ l=>dyA l
 | .opt _ _ _ _=>none
 | .dead=>none
def X4(r:List Ae)(π:Nat->Nat):List Nat->Option (List Dy)
 | []=>some []
 |id::l=>match YZ (r.getD (π id) .dead)with
  |some a=>match X4 r π l with
   |some b=>some (a++b)
   |none=>none
  |none=>none
def Wl(k:LK)(cs:List Dy):Sl×List Dy:=match k with
 | .val _ false=>(match cs with
  |y::_=>.one y.cl
  | []=>.one .dead,cs.drop 1)
 | .val n true=>(.agg ((cs.take n).map Dy.cl),cs.drop n)
 | .ref id=>(.one (.rf id []),cs)
 | .ptr id=>(.one (.rp id [] 0 0),cs)
 | .pth id p=>(.one (.rf id (Uc p cs)),cs.drop p.length)
 | .no=>(.one .dead,cs)
def JV(t0:Nat->Sl):List Nat->List Dy->(Nat->Sl)->(Nat->Sl)×List Dy
 | [],cs,t=>(t,cs)
 |d::L,cs,t=>JV t0 L (Wl (lk (t0 d)) cs).2 (A5 t d (Wl (lk (t0 d)) cs).1)
def Js:List Cl->List Dy->List Cl×List Dy
 | [],cs=>([],cs)
 | .c t d _::l,y::cs=>(match(if h:y.t=t then some (h▸y.x)else none:Option t.T)with
  |some x=>.c t d x
  |none=>.dead)::(Js l cs).1|>fun m=>(m,(Js l cs).2)
 |_::l,cs=>(.dead::(Js l cs).1,(Js l cs).2)
def Wm:Ae->List Dy->Ae×List Dy
 | .arr _ t d _,y::cs=>(match y with
  |⟨.sl t',xs⟩=>if h:t'=t then .arr false t d (h▸xs)else .dead
  |_=>.dead,cs)
 | .arr _ _ _ _,[]=>(.dead,[])
 | .obj _ l,cs=>(.obj false (Js l cs).1,(Js l cs).2)
 | .opt _ _ _ _,cs=>(.dead,cs)
 | .dead,cs=>(.dead,cs)
def DY(r0:List Ae):List Nat->List Dy->List Ae->List Ae
 | [],_,r=>r
 |id::l,cs,r=>DY r0 l (Wm (r0.getD id .dead) cs).2 (r.set id (Wm (r0.getD id .dead) cs).1)
def Bu:Ae->Ae
 | .arr _ t d xs=>.arr true t d xs
 | .obj _ l=>.obj true l
 | .opt _ t d x=>.opt true t d x
 | .dead=>.dead
def A2(ro:Bool)(b:List Oper)(L Rh:List Nat)(s0:St)(cs:List Dy):St:=
 let base:Nat->Sl:=fun i=>bif Aq b i&&(s0.t i).stay then s0.t i else .one .dead
 let f:=JV s0.t L cs base
 ⟨f.1,DY s0.r Rh f.2 (bif ro then s0.r.map Bu else s0.r)⟩
end Go.Ve

