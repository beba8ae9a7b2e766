/- The typed machine: trees get other numbers; the state at the head of a loop. -/
import Derived.Test.YtbbhfpbalccohaaGreatTl
namespace Go.Ve
inductive LK where
 |val (n:Nat) (agg:Bool)
 |ref (id:Nat)
 |ptr (id:Nat)
 |pth (id:Nat) (p:AM)
 |no
def okV:Cl->Bool
 | .c t _ _=>t.one
 |_=>false
def lk:Sl->LK
 | .one (.c t _ _)=>bif t.one then .val 1 false else .no
 | .one (.rf id [])=>.ref id
 | .one (.rp id [] 0 0)=>.ptr id
 | .one (.rf id (a::q))=>.pth id (a::q)
 | .agg l=>bif l.all okV then .val l.length true else .no
 |_=>.no
def dyC:Cl->Option Dy
 | .c t d x=>bif t.one&& !(Cl.c t d x).own then some ⟨t,x⟩else none
 |_=>none
def dyL:List Cl->Option (List Dy)
 | []=>some []
 |y::l=>match dyC y with
  |some z=>match dyL l with
   |some m=>some (z::m)
   |none=>none
  |none=>none
def Dy.cl(y:Dy):Cl:=.c y.t 0 y.x
def dyP:AM->List Dy
 | []=>[]
 |(i,_)::p=>⟨.int .i64,(Int.ofNat i:Int)⟩::dyP p
def Qs:AM->AM->Bool
 | [],[]=>true
 |(_,k)::p,(_,k')::q=>Nat.beq k k'&&Qs p q
 |_,_=>false
def Dy.nat:Dy->Nat
 |⟨.int _,x⟩=>Int.toNat x
 |_=>0
def Q6:AM->List Dy->AM
 | [],_=>[]
 |(_,k)::p,y::cs=>(y.nat,k)::Q6 p cs
 |(_,k)::p,[]=>(0,k)::Q6 p []
def V2(k:LK)(y:Sl):Option (List Dy×List (Nat×Nat)):=match k,y with
 | .val _ false,.one c=>match dyC c with
  |some z=>some ([z],[])
  |none=>none
 | .val n true,.agg l=>bif Nat.beq l.length n then(match dyL l with
  |some m=>some (m,[])
  |none=>none)else none
 | .ref id,.one (.rf id' [])=>some ([],[(id,id')])
 | .ptr id,.one (.rp id' [] 0 0)=>some ([],[(id,id')])
 | .pth id p,.one (.rf id' p')=>bif Qs p p' then some (dyP p',[(id,id')])else none
 | .no,_=>some ([],[])
 |_,_=>none
def Q3(t0:Nat->Sl)(t:Nat->Sl):List Nat->Option (List Dy×List (Nat×Nat))
 | []=>some ([],[])
 |d::L=>match V2 (lk (t0 d)) (t d)with
  |some (a,b)=>match Q3 t0 t L with
   |some (a',b')=>some (a++a',b++b')
   |none=>none
  |none=>none
def piF(m:List (Nat×Nat))(i:Nat):Nat:=match m with
 | []=>i
 |(a,b)::m=>bif Nat.beq a i then b else piF m i
def dyA:List Cl->Option (List Dy)
 | []=>some []
 | .c t _ x::l=>bif t.one then(match dyA l with
  |some m=>some (⟨t,x⟩::m)
  |none=>none)else none
 |_::_=>none
def YL:Ad->Option (List Dy)
 | .arr _ t _ xs=>some [⟨.sl t,xs⟩]
 | .obj _ l=>dyA l
 | .opt _ _ _ _=>none
 | .dead=>none
def XV(r:List Ad)(π:Nat->Nat):List Nat->Option (List Dy)
 | []=>some []
 |id::l=>match YL (r.getD (π id) .dead)with
  |some a=>match XV r π l with
   |some b=>some (a++b)
   |none=>none
  |none=>none
def Wb(k:LK)(cs:List Dy):Sl×List Dy:=match k with
 | .val _ false=>(match cs with
  |y::_=>.one y.cl
  | []=>.one .dead,cs.drop 1)
 | .val n true=>(.agg ((cs.take n).map Dy.cl),cs.drop n)
 | .ref id=>(.one (.rf id []),cs)
 | .ptr id=>(.one (.rp id [] 0 0),cs)
 | .pth id p=>(.one (.rf id (Q6 p cs)),cs.drop p.length)
 | .no=>(.one .dead,cs)
def JN(t0:Nat->Sl):List Nat->List Dy->(Nat->Sl)->(Nat->Sl)×List Dy
 | [],cs,t=>(t,cs)
 |d::L,cs,t=>JN t0 L (Wb (lk (t0 d)) cs).2 (A5 t d (Wb (lk (t0 d)) cs).1)
def Jn:List Cl->List Dy->List Cl×List Dy
 | [],cs=>([],cs)
 | .c t d _::l,y::cs=>(match(if h:y.t=t then some (h▸y.x)else none:Option t.T)with
  |some x=>.c t d x
  |none=>.dead)::(Jn l cs).1|>fun m=>(m,(Jn l cs).2)
 |_::l,cs=>(.dead::(Jn l cs).1,(Jn l cs).2)
def Wc:Ad->List Dy->Ad×List Dy
 | .arr _ t d _,y::cs=>(match y with
  |⟨.sl t',xs⟩=>if h:t'=t then .arr false t d (h▸xs)else .dead
  |_=>.dead,cs)
 | .arr _ _ _ _,[]=>(.dead,[])
 | .obj _ l,cs=>(.obj false (Jn l cs).1,(Jn l cs).2)
 | .opt _ _ _ _,cs=>(.dead,cs)
 | .dead,cs=>(.dead,cs)
def DV(r0:List Ad):List Nat->List Dy->List Ad->List Ad
 | [],_,r=>r
 |id::l,cs,r=>DV r0 l (Wc (r0.getD id .dead) cs).2 (r.set id (Wc (r0.getD id .dead) cs).1)
def Bu:Ad->Ad
 | .arr _ t d xs=>.arr true t d xs
 | .obj _ l=>.obj true l
 | .opt _ t d x=>.opt true t d x
 | .dead=>.dead
def A2(ro:Bool)(b:List Oper)(L Rh:List Nat)(s0:St)(cs:List Dy):St:=
 let base:Nat->Sl:=fun i=>bif Aq b i&&(s0.t i).stay then s0.t i else .one .dead
 let f:=JN s0.t L cs base
 ⟨f.1,DV s0.r Rh f.2 (bif ro then s0.r.map Bu else s0.r)⟩
end Go.Ve

