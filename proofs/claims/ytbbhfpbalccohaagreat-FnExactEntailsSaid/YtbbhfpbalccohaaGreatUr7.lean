/- What the functions compute (printed by a program), and that they do. -/
import Derived.Test.YtbbhfpbalccohaaGreatUr6
namespace Go.Ve.D
open Go Go.Ve Go.Proofs Go.Proofs.Tryz
set_option maxRecDepth 100000
open IntKind
noncomputable section
def S76:Sig:=⟨[(false,(.sl (.sl .bool)))],[(false,0,yI),(false,0,yI),(false,0,.bool)]⟩
def E76:AA:=⟨⟨TB,[],[],[],⟨29,[],0⟩⟩,[(2,[11],[2000009,2000010]),(2,[1000002,9,10,11],[]),(5,[18],[2000005,2000009,2000010,2000011,2000016,2000017]),(5,[1000005,5,9,10,11,16,17,18],[])],[]⟩
def G76(x:LLB):Option (Int×(Int×Bool)):=((Ag (fun(v0:Int)=>bif decide (v0<(x.length:Int))then if 0<=v0/\v0<(x.length:Int)then(Ag (fun(v1:Int)=>bif decide (v1<((x.getD v0.toNat []).length:Int))then if 0<=v1/\v1<((x.getD v0.toNat []).length:Int)then bif !((x.getD v0.toNat []).getD v1.toNat false)then AM (AM (some (v0,(v1,true))))else some (LO.next (i64.wrap (v1+1)))else none else some (LO.brk 2 v1)) 0).bind (LO.fin fun i1 v1=>if i1=2 then some (LO.next (i64.wrap (v0+1)))else none)else none else some (LO.brk 0 v0)) 0).bind (LO.fin fun i0 v0=>if i0=0 then some (0,(0,false))else none))
theorem c76:FT prog 76 S76 G76:=fk E76 Ac func76 (by kernel_rfl) (by kernel_rfl)
end
end Go.Ve.D

