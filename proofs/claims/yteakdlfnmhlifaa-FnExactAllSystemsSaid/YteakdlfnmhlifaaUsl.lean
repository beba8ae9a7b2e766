/- What the functions compute, and that they do. -/
import Derived.Test.YteakdlfnmhlifaaUall1
set_option linter.all false
namespace Go.Ve.D
open Go Go.Ve Go.Proofs
set_option maxRecDepth 100000
def S5:Sig:=⟨[(true,(.pair (.int .i64) (.pair (.sl (.int .i64)) (.pair (.sl (.int .i64)) (.pair (.sl (.int .i64)) (.sl (.sl (.int .i64))))))))],[(false,0,.bool)]⟩
noncomputable def E5:Ih:=⟨⟨TB,[⟨15,S15,G15⟩,⟨17,S17,G17⟩,⟨20,S20,G20⟩,⟨25,S25,G25⟩,⟨26,S26,G26⟩,⟨27,S27,G27⟩,⟨29,S29,G29⟩],[⟨22,S22,G22⟩,⟨28,S28,G28⟩],[],⟨96,[1,21,54],0⟩,[],[]⟩,[],[]⟩
noncomputable def G5(x:Ca):Option Bool:=(Option.bind (G15 (x,(1048576:Int))) (fun(v0:Int)=>(bif(decide (v0<(0:Int)))then(some true)else(Option.bind (G17 x) (fun(v1:Ca)=>(Option.bind (G25 v1) (fun(F:(LL×Int))=>(Option.bind (G17 x) (fun(Z:Ca)=>(Option.bind (G26 Z) (fun(H:(LL×Int))=>(Option.bind (G27 (H.1,F.1)) (fun(v5:Bool)=>(Option.bind (bif(!v5)then(some true)else(some (!decide (H.2=F.2)))) (fun(v6:Bool)=>(bif v6 then(some false)else(Option.bind (G17 x) (fun(v7:Ca)=>(Option.bind (G20 (Z,v7)) (fun(v8:Bool)=>(bif(!v8)then(some false)else(Option.bind (G22 (Z,(1:Int))) (fun(v9:Ca)=>(Option.bind (bif(decide (v9.1<(0:Int)))then(some true)else(Option.bind (G27 (H.1,F.1)) (fun(B:Bool)=>(some (!B))))) (fun(B:Bool)=>(Option.bind (bif B then(some true)else(some (!decide (H.2=F.2)))) (fun(v11:Bool)=>(bif v11 then(some false)else(Option.bind (G28 (H.1,(1:Int))) (fun(A:(Int×LL))=>(Option.bind (G29 (A.2,(1:Int))) (fun(Y:Int)=>(bif(decide (Y<(0:Int)))then(some false)else(bif(!decide (Y=A.1))then(some false)else(Option.bind (G17 x) (fun(v14:Ca)=>(Option.bind (G26 v14) (fun(W:(LL×Int))=>(Option.bind (G27 (W.1,F.1)) (fun(v16:Bool)=>(Option.bind (bif(!v16)then(some true)else(some (!decide (W.2=F.2)))) (fun(v17:Bool)=>(bif v17 then(some false)else(Option.bind (G29 (A.2,(1:Int))) (fun(U:Int)=>(bif(decide (U<(0:Int)))then(some false)else(bif(!decide (U=A.1))then(some false)else(some true))))))))))))))))))))))))))))))))))))))))))))))))
def t5:tfn E5 Try.f5 S5=G5:=by kernel_rfl
def c5:FT Try.prog 5 S5 G5:=AaD Mn (fCs c15 (fCs c17 (fCs c20 (Jw a25 c25 (Jw a26 c26 (fCs c27 (fCs c29 An))))))) (H4 a22 c22 (H4 a28 c28 C9)) Da mixed Try.func5 (by kernel_rfl) t5
def a5:AE Try.prog 5=true:=by kernel_rfl
end Go.Ve.D

