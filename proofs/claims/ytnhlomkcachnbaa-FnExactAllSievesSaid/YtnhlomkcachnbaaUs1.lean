/- What the functions compute, and that they do. -/
import Derived.Test.YtnhlomkcachnbaaUr3u
namespace Go.Ve.D
open Go Go.Ve Go.Proofs
set_option maxRecDepth 100000
def S115:Sig:=⟨[(false,(.sl (.int .i64))),(false,(.sl (.int .i64)))],[(false,0,(.int .i64))]⟩
noncomputable def E115:Bh:=⟨⟨TB,[],[],[],⟨39,[],0⟩,[]⟩,[(2,[8],[2000007]),(2,[1000002,7,8],[])],[]⟩
noncomputable def G115(x:((List Int)×(List Int))):Option Int:=(Option.bind (Au (fun(v0:Int)=>(bif(decide (v0<((x.1.length:Nat):Int)))then(bif(decide (v0=((x.2.length:Nat):Int)))then(BT (some (1:Int)))else(if(((0:Int)<=v0)/\(v0<((x.1.length:Nat):Int)))then(if(((0:Int)<=v0)/\(v0<((x.2.length:Nat):Int)))then(bif(!decide ((x.1.getD (v0).toNat (0:Int))=(x.2.getD (v0).toNat (0:Int))))then(if(((0:Int)<=v0)/\(v0<((x.1.length:Nat):Int)))then(if(((0:Int)<=v0)/\(v0<((x.2.length:Nat):Int)))then(bif(decide ((x.1.getD (v0).toNat (0:Int))<(x.2.getD (v0).toNat (0:Int))))then(BT (some (-(1:Int))))else(BT (some (1:Int))))else none)else none)else(some (LO.next (IntKind.wrap .i64 (v0+(1:Int))))))else none)else none))else(some (LO.brk 0 v0)))) (0:Int)) (LO.fin fun i0 (v0:Int)=>(if i0=0 then(bif(decide (((x.1.length:Nat):Int)<((x.2.length:Nat):Int)))then(some (-(1:Int)))else(some (0:Int)))else none)))
theorem t115:tfn E115 Try.f115 S115=G115:=by kernel_rfl
theorem c115:FT Try.prog 115 S115 G115:=AV AS Ap Ao Aq AP Try.func115 (by kernel_rfl) t115
theorem a115:Ac Try.prog 115=true:=by kernel_rfl
def S141:Sig:=⟨[(false,(.sl (.int .i64))),(false,(.sl (.int .i64)))],[(false,0,(.int .i64))]⟩
noncomputable def E141:Bh:=⟨⟨TB,[⟨115,S115,G115⟩],[],[],⟨8,[],0⟩,[]⟩,[],[]⟩
noncomputable def G141(x:((List Int)×(List Int))):Option Int:=(Option.bind (G115 (x.1,x.2)) (fun(v0:Int)=>(some v0)))
theorem t141:tfn E141 Try.f141 S141=G141:=by kernel_rfl
theorem c141:FT Try.prog 141 S141 G141:=AV AS (Ae a115 c115 Ap) Ao Aq AP Try.func141 (by kernel_rfl) t141
theorem a141:Ac Try.prog 141=true:=by kernel_rfl
end Go.Ve.D

