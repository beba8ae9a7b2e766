/- What the functions compute (printed by a program), and that they do. -/
import Derived.Test.YtbbhfpbalccohaaGreatUr8
namespace Go.Ve.D
open Go Go.Ve Go.Proofs Go.Proofs.Tryz
set_option maxRecDepth 100000
open IntKind
noncomputable section
def S83:Sig:=⟨[(false,.bool),(false,.bool)],[(false,0,.bool)]⟩
def E83:AA:=⟨⟨TB,[],[],[],⟨7,[],0⟩⟩,[],[]⟩
def G83(x:(Bool×Bool)):Option Bool:=(some (!x.1))
theorem c83:FT prog 83 S83 G83:=fk E83 Ac func83 (by kernel_rfl) (by kernel_rfl)
def S84:Sig:=⟨[(false,.bool),(false,.bool)],[(false,0,.bool)]⟩
def E84:AA:=⟨⟨TB,[],[],[],⟨9,[],0⟩⟩,[],[]⟩
def G84(x:(Bool×Bool)):Option Bool:=(Option.bind (bif x.1 then some true else some x.2) (fun(v0:Bool)=>some v0))
theorem c84:FT prog 84 S84 G84:=fk E84 Ac func84 (by kernel_rfl) (by kernel_rfl)
def S40082:Sig:=⟨[(false,(.sl (.sl .bool))),(false,(.sl (.sl .bool))),(false,(.clo 83 .unit))],[(false,2,(.sl (.sl .bool)))]⟩
def E40082:AA:=⟨⟨TB,[⟨83,S83,G83⟩],[],[],⟨54,[],0⟩⟩,[(3,[7,14],[1,1007001,2000013]),(3,[1000003,7,13,14],[]),(7,[7,9,25],[1,2,1007001,2000008,1009002,2000013,2000014,2000024]),(7,[1000007,7,8,9,13,14,24,25],[])],[]⟩
def G40082(x:(LLB×(LLB×Unit))):Option LLB:=(pw G83 x)
theorem c40082:FT prog 82 S40082 G40082:=fk E40082 (ek c83 Ac) func82 (by kernel_rfl) (by kernel_rfl)
def S50082:Sig:=⟨[(false,(.sl (.sl .bool))),(false,(.sl (.sl .bool))),(false,(.clo 84 .unit))],[(false,2,(.sl (.sl .bool)))]⟩
def E50082:AA:=⟨⟨TB,[⟨84,S84,G84⟩],[],[],⟨54,[],0⟩⟩,[(3,[7,14],[1,1007001,2000013]),(3,[1000003,7,13,14],[]),(7,[7,9,25],[1,2,1007001,2000008,1009002,2000013,2000014,2000024]),(7,[1000007,7,8,9,13,14,24,25],[])],[]⟩
def G50082(x:(LLB×(LLB×Unit))):Option LLB:=(pw G84 x)
theorem c50082:FT prog 82 S50082 G50082:=fk E50082 (ek c84 Ac) func82 (by kernel_rfl) (by kernel_rfl)
end
end Go.Ve.D

