/- What the functions compute (printed by a program), and that they do. -/
import Derived.Test.YtbbhfpbalccohaaGreatUr5
namespace Go.Ve.D
open Go Go.Ve Go.Proofs Go.Proofs.Tryz
set_option maxRecDepth 100000
abbrev yI:Ty:=(.int .i64)
abbrev yL:Ty:=(.sl yI)
abbrev yN:Ty:=(.pair yI (.pair yI yL))
abbrev yR:Ty:=(.pair yL (.sl yL))
abbrev yC:Ty:=(.pair yI (.pair yL (.pair yL yR)))
abbrev ySF:Ty:=(.pair yI (.pair yL (.pair yL (.pair yL (.pair (.sl yL) yR)))))
abbrev ySt:Ty:=(.pair (.sl ySF) (.sl yR))
abbrev yF:Ty:=(.pair (.ptr ySt) (.ptr yC))
abbrev LI:=List Int
abbrev LL:=List (List Int)
abbrev LB:=List Bool
abbrev LLB:=List (List Bool)
abbrev SF:=Int×List Int×List Int×List Int×List (List Int)×List Int×List (List Int)
abbrev Ca:=Int×List Int×List Int×List Int×List (List Int)
abbrev Rl:=List Int×List (List Int)
abbrev Nd:=Int×Int×List Int
abbrev LS:=List SF
abbrev LR:=List Rl
abbrev LN:=List Nd
abbrev St:=List SF×List Rl
def nd0:Nd:=(0,0,[])
def sf0:SF:=(0,[],[],[],[],[],[])
def rl0:Rl:=([],[])
open IntKind
noncomputable section
def S91:Sig:=⟨[(false,yL),(false,yI)],[(false,0,yI)]⟩
def E91:AF:=⟨⟨TB,[],[],[],⟨12,[],0⟩⟩,[],[]⟩
def G91(x:(LI×Int)):Option Int:=(bif decide ((i64.wrap (x.2-(x.1.length:Int)))<0)then some (-1)else some (i64.wrap (x.2-(x.1.length:Int))))
theorem t91:tfn E91 f91 S91=G91:=by kernel_rfl
theorem c91:FT prog 91 S91 G91:=Av As Af Ae Ag Au func91 (by kernel_rfl) t91
theorem a91:Ad prog 91=true:=by kernel_rfl
def szG{α:Type}(g:α×Int->Option Int)(d:α)(x:List α)(b:Int):Option Int:=(bif decide ((i64.wrap (b-(x.length:Int)))<0)then some (-1)else(Am (fun(v0:(Int×Int))=>bif decide (v0.2<(x.length:Int))then if 0<=v0.2/\v0.2<(x.length:Int)then Option.bind (g ((x.getD v0.2.toNat d),v0.1)) (fun(v1:Int)=>bif decide (v1<0)then AV (some (-1))else some (LO.next (v1,(i64.wrap (v0.2+1)))))else none else some (LO.brk 0 (v0.1,v0.2))) ((i64.wrap (b-(x.length:Int))),0)).bind (LO.fin fun i0 v0=>if i0=0 then some v0.1 else none))
def S118:Sig:=⟨[(false,(.sl yL)),(false,yI)],[(false,0,yI)]⟩
def E118:AF:=⟨⟨TB,[⟨91,S91,G91⟩],[],[],⟨27,[],0⟩⟩,[(5,[1,5],[])],[]⟩
def G118(x:(LL×Int)):Option Int:=(szG G91 [] x.1 x.2)
theorem t118:tfn E118 f118 S118=G118:=by kernel_rfl
theorem c118:FT prog 118 S118 G118:=Av As (Ab a91 c91 Af) Ae Ag Au func118 (by kernel_rfl) t118
theorem a118:Ad prog 118=true:=by kernel_rfl
def S117:Sig:=⟨[(true,yC),(false,yI)],[(false,0,yI)]⟩
def E117:AF:=⟨⟨TB,[⟨91,S91,G91⟩,⟨118,S118,G118⟩],[],[],⟨30,[2],0⟩⟩,[],[]⟩
def G117(x:(Ca×Int)):Option Int:=((G91 (x.1.2.1,x.2)).bind fun v0=>bif decide (v0<0)then some (-1)else(G91 (x.1.2.2.1,v0)).bind fun v1=>bif decide (v1<0)then some (-1)else(G91 (x.1.2.2.2.1,v1)).bind fun v2=>bif decide (v2<0)then some (-1)else(G118 (x.1.2.2.2.2,v2)).bind fun v3=>bif decide (v3<0)then some (-1)else some v3)
theorem t117:tfn E117 f117 S117=G117:=by kernel_rfl
theorem c117:FT prog 117 S117 G117:=Av As (Ab a91 c91 (Ab a118 c118 Af)) Ae Ag Au func117 (by kernel_rfl) t117
theorem a117:Ad prog 117=true:=by kernel_rfl
def S89:Sig:=⟨[(true,ySF),(false,yI)],[(false,0,yI)]⟩
def E89:AF:=⟨⟨TB,[⟨91,S91,G91⟩,⟨118,S118,G118⟩,⟨117,S117,G117⟩],[],[],⟨24,[2],0⟩⟩,[],[]⟩
def G89(x:(SF×Int)):Option Int:=((G117 ((x.1.1,(x.1.2.1,(x.1.2.2.1,(x.1.2.2.2.1,x.1.2.2.2.2.1)))),x.2)).bind fun v0=>bif decide (v0<0)then some (-1)else(G91 (x.1.2.2.2.2.2.1,v0)).bind fun v1=>bif decide (v1<0)then some (-1)else(G118 (x.1.2.2.2.2.2.2,v1)).bind fun v2=>bif decide (v2<0)then some (-1)else some v2)
theorem t89:tfn E89 f89 S89=G89:=by kernel_rfl
theorem c89:FT prog 89 S89 G89:=Av As (Ab a91 c91 (Ab a118 c118 (Ab a117 c117 Af))) Ae Ag Au func89 (by kernel_rfl) t89
theorem a89:Ad prog 89=true:=by kernel_rfl
def S48:Sig:=⟨[(false,(.sl ySF)),(false,yI)],[(false,0,yI)]⟩
def E48:AF:=⟨⟨TB,[⟨89,S89,G89⟩],[],[],⟨27,[],0⟩⟩,[(5,[1,5],[])],[]⟩
def G48(x:(LS×Int)):Option Int:=(szG G89 sf0 x.1 x.2)
theorem t48:tfn E48 f48 S48=G48:=by kernel_rfl
theorem c48:FT prog 48 S48 G48:=Av As (Ab a89 c89 Af) Ae Ag Au func48 (by kernel_rfl) t48
theorem a48:Ad prog 48=true:=by kernel_rfl
def S90:Sig:=⟨[(true,yR),(false,yI)],[(false,0,yI)]⟩
def E90:AF:=⟨⟨TB,[⟨91,S91,G91⟩,⟨118,S118,G118⟩],[],[],⟨18,[2],0⟩⟩,[],[]⟩
def G90(x:(Rl×Int)):Option Int:=((G91 (x.1.1,x.2)).bind fun v0=>bif decide (v0<0)then some (-1)else(G118 (x.1.2,v0)).bind fun v1=>bif decide (v1<0)then some (-1)else some v1)
theorem t90:tfn E90 f90 S90=G90:=by kernel_rfl
theorem c90:FT prog 90 S90 G90:=Av As (Ab a91 c91 (Ab a118 c118 Af)) Ae Ag Au func90 (by kernel_rfl) t90
theorem a90:Ad prog 90=true:=by kernel_rfl
def S49:Sig:=⟨[(false,(.sl yR)),(false,yI)],[(false,0,yI)]⟩
def E49:AF:=⟨⟨TB,[⟨90,S90,G90⟩],[],[],⟨27,[],0⟩⟩,[(5,[1,5],[])],[]⟩
def G49(x:(LR×Int)):Option Int:=(szG G90 rl0 x.1 x.2)
theorem t49:tfn E49 f49 S49=G49:=by kernel_rfl
theorem c49:FT prog 49 S49 G49:=Av As (Ab a90 c90 Af) Ae Ag Au func49 (by kernel_rfl) t49
theorem a49:Ad prog 49=true:=by kernel_rfl
def S11:Sig:=⟨[(true,ySt),(false,yI)],[(false,0,yI)]⟩
def E11:AF:=⟨⟨TB,[⟨48,S48,G48⟩,⟨49,S49,G49⟩],[],[],⟨18,[2],0⟩⟩,[],[]⟩
def G11(x:(St×Int)):Option Int:=((G48 (x.1.1,x.2)).bind fun v0=>bif decide (v0<0)then some (-1)else(G49 (x.1.2,v0)).bind fun v1=>bif decide (v1<0)then some (-1)else some v1)
theorem t11:tfn E11 f11 S11=G11:=by kernel_rfl
theorem c11:FT prog 11 S11 G11:=Av As (Ab a48 c48 (Ab a49 c49 Af)) Ae Ag Au func11 (by kernel_rfl) t11
theorem a11:Ad prog 11=true:=by kernel_rfl
def S50:Sig:=⟨[(true,yN),(false,yI)],[(false,0,yI)]⟩
def E50:AF:=⟨⟨TB,[⟨91,S91,G91⟩],[],[],⟨12,[2],0⟩⟩,[],[]⟩
def G50(x:(Nd×Int)):Option Int:=((G91 (x.1.2.2,x.2)).bind fun v0=>bif decide (v0<0)then some (-1)else some v0)
theorem t50:tfn E50 f50 S50=G50:=by kernel_rfl
theorem c50:FT prog 50 S50 G50:=Av As (Ab a91 c91 Af) Ae Ag Au func50 (by kernel_rfl) t50
theorem a50:Ad prog 50=true:=by kernel_rfl
def S12:Sig:=⟨[(false,(.sl yN)),(false,yI)],[(false,0,yI)]⟩
def E12:AF:=⟨⟨TB,[⟨50,S50,G50⟩],[],[],⟨27,[],0⟩⟩,[(5,[1,5],[])],[]⟩
def G12(x:(LN×Int)):Option Int:=(szG G50 nd0 x.1 x.2)
theorem t12:tfn E12 f12 S12=G12:=by kernel_rfl
theorem c12:FT prog 12 S12 G12:=Av As (Ab a50 c50 Af) Ae Ag Au func12 (by kernel_rfl) t12
theorem a12:Ad prog 12=true:=by kernel_rfl
def S15:Sig:=⟨[(false,yL)],[(false,1,yL)]⟩
def E15:AF:=⟨⟨TB,[],[],[],⟨22,[],0⟩⟩,[(3,[3,4],[1])],[]⟩
def G15(x:LI):Option LI:=(if(0<=(x.length:Int))/\(((x.length:Int)<=(x.length:Int))/\(((8*(x.length:Int))<=281474976710656)/\((x.length:Int)<=9223372036854775807)))then(Am (fun(v0:(Int×LI))=>bif decide (v0.1<(x.length:Int))then if 0<=v0.1/\v0.1<(x.length:Int)then if 0<=v0.1/\v0.1<(v0.2.length:Int)then some (LO.next ((i64.wrap (v0.1+1)),(v0.2.set v0.1.toNat (x.getD v0.1.toNat 0))))else none else none else some (LO.brk 0 (v0.1,v0.2))) (0,(List.replicate (x.length:Int).toNat (0:Int)))).bind (LO.fin fun i0 v0=>if i0=0 then some v0.2 else none)else none)
theorem t15:tfn E15 f15 S15=G15:=by kernel_rfl
theorem c15:FT prog 15 S15 G15:=Av As Af Ae Ag Au func15 (by kernel_rfl) t15
theorem a15:Ad prog 15=true:=by kernel_rfl
def S125:Sig:=⟨[(false,(.sl yL))],[(false,2,(.sl yL))]⟩
def E125:AF:=⟨⟨TB,[⟨15,S15,G15⟩],[],[],⟨23,[],0⟩⟩,[(3,[3,4],[1])],[]⟩
def G125(x:LL):Option LL:=(if(0<=(x.length:Int))/\(((x.length:Int)<=(x.length:Int))/\(((24*(x.length:Int))<=281474976710656)/\((x.length:Int)<=9223372036854775807)))then(Am (fun(v0:(Int×LL))=>bif decide (v0.1<(x.length:Int))then if 0<=v0.1/\v0.1<(x.length:Int)then(G15 (x.getD v0.1.toNat [])).bind fun v1=>if 0<=v0.1/\v0.1<(v0.2.length:Int)then some (LO.next ((i64.wrap (v0.1+1)),(v0.2.set v0.1.toNat v1)))else none else none else some (LO.brk 0 (v0.1,v0.2))) (0,(List.replicate (x.length:Int).toNat []))).bind (LO.fin fun i0 v0=>if i0=0 then some v0.2 else none)else none)
theorem t125:tfn E125 f125 S125=G125:=by kernel_rfl
theorem c125:FT prog 125 S125 G125:=Av As (Ab a15 c15 Af) Ae Ag Au func125 (by kernel_rfl) t125
theorem a125:Ad prog 125=true:=by kernel_rfl
def S124:Sig:=⟨[(true,yC)],[(true,2,yC)]⟩
def E124:AF:=⟨⟨TB,[⟨15,S15,G15⟩,⟨125,S125,G125⟩],[],[],⟨24,[1],0⟩⟩,[],[]⟩
def G124(x:Ca):Option Ca:=((G15 x.2.1).bind fun v0=>(G15 x.2.2.1).bind fun v1=>(G15 x.2.2.2.1).bind fun v2=>(G125 x.2.2.2.2).bind fun v3=>some (x.1,(v0,(v1,(v2,v3)))))
theorem t124:tfn E124 f124 S124=G124:=by kernel_rfl
theorem c124:FT prog 124 S124 G124:=Av As (Ab a15 c15 (Ab a125 c125 Af)) Ae Ag Au func124 (by kernel_rfl) t124
theorem a124:Ad prog 124=true:=by kernel_rfl
def S99:Sig:=⟨[(true,ySF)],[(true,2,ySF)]⟩
def E99:AF:=⟨⟨TB,[⟨15,S15,G15⟩,⟨125,S125,G125⟩,⟨124,S124,G124⟩],[],[],⟨17,[1],0⟩⟩,[],[]⟩
def G99(x:SF):Option SF:=((G124 (x.1,(x.2.1,(x.2.2.1,(x.2.2.2.1,x.2.2.2.2.1))))).bind fun v0=>(G15 x.2.2.2.2.2.1).bind fun v1=>(G125 x.2.2.2.2.2.2).bind fun v2=>some (v0.1,(v0.2.1,(v0.2.2.1,(v0.2.2.2.1,(v0.2.2.2.2,(v1,v2)))))))
theorem t99:tfn E99 f99 S99=G99:=by kernel_rfl
theorem c99:FT prog 99 S99 G99:=Av As (Ab a15 c15 (Ab a125 c125 (Ab a124 c124 Af))) Ae Ag Au func99 (by kernel_rfl) t99
theorem a99:Ad prog 99=true:=by kernel_rfl
def S54:Sig:=⟨[(false,(.sl ySF))],[(false,3,(.sl ySF))]⟩
def E54:AF:=⟨⟨TB,[⟨99,S99,G99⟩],[],[],⟨23,[],0⟩⟩,[(3,[3,4],[1])],[]⟩
def G54(x:LS):Option LS:=(if(0<=(x.length:Int))/\(((x.length:Int)<=(x.length:Int))/\(((152*(x.length:Int))<=281474976710656)/\((x.length:Int)<=9223372036854775807)))then(Am (fun(v0:(Int×LS))=>bif decide (v0.1<(x.length:Int))then if 0<=v0.1/\v0.1<(x.length:Int)then(G99 ((x.getD v0.1.toNat sf0).1,((x.getD v0.1.toNat sf0).2.1,((x.getD v0.1.toNat sf0).2.2.1,((x.getD v0.1.toNat sf0).2.2.2.1,((x.getD v0.1.toNat sf0).2.2.2.2.1,((x.getD v0.1.toNat sf0).2.2.2.2.2.1,(x.getD v0.1.toNat sf0).2.2.2.2.2.2))))))).bind fun v1=>if 0<=v0.1/\v0.1<(v0.2.length:Int)then Option.bind (some (v0.2.set v0.1.toNat (v1.1,(v0.2.getD v0.1.toNat sf0).2))) (fun(v2:LS)=>Option.bind (some (v2.set v0.1.toNat ((v2.getD v0.1.toNat sf0).1,(v1.2.1,(v2.getD v0.1.toNat sf0).2.2)))) (fun(v3:LS)=>Option.bind (some (v3.set v0.1.toNat ((v3.getD v0.1.toNat sf0).1,((v3.getD v0.1.toNat sf0).2.1,(v1.2.2.1,(v3.getD v0.1.toNat sf0).2.2.2))))) (fun(v4:LS)=>Option.bind (some (v4.set v0.1.toNat ((v4.getD v0.1.toNat sf0).1,((v4.getD v0.1.toNat sf0).2.1,((v4.getD v0.1.toNat sf0).2.2.1,(v1.2.2.2.1,(v4.getD v0.1.toNat sf0).2.2.2.2)))))) (fun(v5:LS)=>Option.bind (some (v5.set v0.1.toNat ((v5.getD v0.1.toNat sf0).1,((v5.getD v0.1.toNat sf0).2.1,((v5.getD v0.1.toNat sf0).2.2.1,((v5.getD v0.1.toNat sf0).2.2.2.1,(v1.2.2.2.2.1,(v5.getD v0.1.toNat sf0).2.2.2.2.2))))))) (fun(v6:LS)=>Option.bind (some (v6.set v0.1.toNat ((v6.getD v0.1.toNat sf0).1,((v6.getD v0.1.toNat sf0).2.1,((v6.getD v0.1.toNat sf0).2.2.1,((v6.getD v0.1.toNat sf0).2.2.2.1,((v6.getD v0.1.toNat sf0).2.2.2.2.1,(v1.2.2.2.2.2.1,(v6.getD v0.1.toNat sf0).2.2.2.2.2.2)))))))) (fun(v7:LS)=>Option.bind (some (v7.set v0.1.toNat ((v7.getD v0.1.toNat sf0).1,((v7.getD v0.1.toNat sf0).2.1,((v7.getD v0.1.toNat sf0).2.2.1,((v7.getD v0.1.toNat sf0).2.2.2.1,((v7.getD v0.1.toNat sf0).2.2.2.2.1,((v7.getD v0.1.toNat sf0).2.2.2.2.2.1,v1.2.2.2.2.2.2)))))))) (fun(v8:LS)=>some (LO.next ((i64.wrap (v0.1+1)),v8)))))))))else none else none else some (LO.brk 0 (v0.1,v0.2))) (0,(List.replicate (x.length:Int).toNat sf0))).bind (LO.fin fun i0 v0=>if i0=0 then some v0.2 else none)else none)
theorem t54:tfn E54 f54 S54=G54:=by kernel_rfl
theorem c54:FT prog 54 S54 G54:=Av As (Ab a99 c99 Af) Ae Ag Au func54 (by kernel_rfl) t54
theorem a54:Ad prog 54=true:=by kernel_rfl
def S100:Sig:=⟨[(true,yR)],[(true,2,yR)]⟩
def E100:AF:=⟨⟨TB,[⟨15,S15,G15⟩,⟨125,S125,G125⟩],[],[],⟨13,[1],0⟩⟩,[],[]⟩
def G100(x:Rl):Option Rl:=((G15 x.1).bind fun v0=>(G125 x.2).bind fun v1=>some (v0,v1))
theorem t100:tfn E100 f100 S100=G100:=by kernel_rfl
theorem c100:FT prog 100 S100 G100:=Av As (Ab a15 c15 (Ab a125 c125 Af)) Ae Ag Au func100 (by kernel_rfl) t100
theorem a100:Ad prog 100=true:=by kernel_rfl
def S55:Sig:=⟨[(false,(.sl yR))],[(false,3,(.sl yR))]⟩
def E55:AF:=⟨⟨TB,[⟨100,S100,G100⟩],[],[],⟨23,[],0⟩⟩,[(3,[3,4],[1])],[]⟩
def G55(x:LR):Option LR:=(if(0<=(x.length:Int))/\(((x.length:Int)<=(x.length:Int))/\(((48*(x.length:Int))<=281474976710656)/\((x.length:Int)<=9223372036854775807)))then(Am (fun(v0:(Int×LR))=>bif decide (v0.1<(x.length:Int))then if 0<=v0.1/\v0.1<(x.length:Int)then(G100 ((x.getD v0.1.toNat rl0).1,(x.getD v0.1.toNat rl0).2)).bind fun v1=>if 0<=v0.1/\v0.1<(v0.2.length:Int)then some (LO.next ((i64.wrap (v0.1+1)),((v0.2.set v0.1.toNat (v1.1,(v0.2.getD v0.1.toNat rl0).2)).set v0.1.toNat (((v0.2.set v0.1.toNat (v1.1,(v0.2.getD v0.1.toNat rl0).2)).getD v0.1.toNat rl0).1,v1.2))))else none else none else some (LO.brk 0 (v0.1,v0.2))) (0,(List.replicate (x.length:Int).toNat rl0))).bind (LO.fin fun i0 v0=>if i0=0 then some v0.2 else none)else none)
theorem t55:tfn E55 f55 S55=G55:=by kernel_rfl
theorem c55:FT prog 55 S55 G55:=Av As (Ab a100 c100 Af) Ae Ag Au func55 (by kernel_rfl) t55
theorem a55:Ad prog 55=true:=by kernel_rfl
def S14:Sig:=⟨[(true,ySt)],[(true,3,ySt)]⟩
def E14:AF:=⟨⟨TB,[⟨54,S54,G54⟩,⟨55,S55,G55⟩],[],[],⟨13,[1],0⟩⟩,[],[]⟩
def G14(x:St):Option St:=((G54 x.1).bind fun v0=>(G55 x.2).bind fun v1=>some (v0,v1))
theorem t14:tfn E14 f14 S14=G14:=by kernel_rfl
theorem c14:FT prog 14 S14 G14:=Av As (Ab a54 c54 (Ab a55 c55 Af)) Ae Ag Au func14 (by kernel_rfl) t14
theorem a14:Ad prog 14=true:=by kernel_rfl
def S56:Sig:=⟨[(true,yN)],[(true,1,yN)]⟩
def E56:AF:=⟨⟨TB,[⟨15,S15,G15⟩],[],[],⟨15,[1],0⟩⟩,[],[]⟩
def G56(x:Nd):Option Nd:=((G15 x.2.2).bind fun v0=>some (x.1,(x.2.1,v0)))
theorem t56:tfn E56 f56 S56=G56:=by kernel_rfl
theorem c56:FT prog 56 S56 G56:=Av As (Ab a15 c15 Af) Ae Ag Au func56 (by kernel_rfl) t56
theorem a56:Ad prog 56=true:=by kernel_rfl
def S16:Sig:=⟨[(false,(.sl yN))],[(false,2,(.sl yN))]⟩
def E16:AF:=⟨⟨TB,[⟨56,S56,G56⟩],[],[],⟨23,[],0⟩⟩,[(3,[3,4],[1])],[]⟩
def G16(x:LN):Option LN:=(if(0<=(x.length:Int))/\(((x.length:Int)<=(x.length:Int))/\(((40*(x.length:Int))<=281474976710656)/\((x.length:Int)<=9223372036854775807)))then(Am (fun(v0:(Int×LN))=>bif decide (v0.1<(x.length:Int))then if 0<=v0.1/\v0.1<(x.length:Int)then(G56 ((x.getD v0.1.toNat nd0).1,((x.getD v0.1.toNat nd0).2.1,(x.getD v0.1.toNat nd0).2.2))).bind fun v1=>if 0<=v0.1/\v0.1<(v0.2.length:Int)then Option.bind (some (v0.2.set v0.1.toNat (v1.1,(v0.2.getD v0.1.toNat nd0).2))) (fun(v2:LN)=>Option.bind (some (v2.set v0.1.toNat ((v2.getD v0.1.toNat nd0).1,(v1.2.1,(v2.getD v0.1.toNat nd0).2.2)))) (fun(v3:LN)=>Option.bind (some (v3.set v0.1.toNat ((v3.getD v0.1.toNat nd0).1,((v3.getD v0.1.toNat nd0).2.1,v1.2.2)))) (fun(v4:LN)=>some (LO.next ((i64.wrap (v0.1+1)),v4)))))else none else none else some (LO.brk 0 (v0.1,v0.2))) (0,(List.replicate (x.length:Int).toNat nd0))).bind (LO.fin fun i0 v0=>if i0=0 then some v0.2 else none)else none)
theorem t16:tfn E16 f16 S16=G16:=by kernel_rfl
theorem c16:FT prog 16 S16 G16:=Av As (Ab a56 c56 Af) Ae Ag Au func16 (by kernel_rfl) t16
theorem a16:Ad prog 16=true:=by kernel_rfl
def S127:Sig:=⟨[(false,yI),(false,yI),(false,yI)],[(false,0,.bool)]⟩
def E127:AF:=⟨⟨TB,[],[],[],⟨15,[],0⟩⟩,[],[]⟩
def G127(x:(Int×(Int×Int))):Option Bool:=(Option.bind (bif decide (x.2.1<=x.1)then some (decide (x.1<=x.2.2))else some false) (fun(v0:Bool)=>some v0))
theorem t127:tfn E127 f127 S127=G127:=by kernel_rfl
theorem c127:FT prog 127 S127 G127:=Av As Af Ae Ag Au func127 (by kernel_rfl) t127
theorem a127:Ad prog 127=true:=by kernel_rfl
def S132:Sig:=⟨[(false,yI),(false,yL)],[(false,0,.bool)]⟩
def E132:AF:=⟨⟨TB,[],[],[],⟨25,[],0⟩⟩,[(2,[5],[])],[]⟩
def G132(x:(Int×LI)):Option Bool:=((Am (fun(v0:Int)=>bif decide (v0<(x.2.length:Int))then if 0<=v0/\v0<(x.2.length:Int)then Option.bind (bif decide ((x.2.getD v0.toNat 0)<0)then some true else if 0<=v0/\v0<(x.2.length:Int)then some (decide (x.1<=(x.2.getD v0.toNat 0)))else none) (fun(v1:Bool)=>bif v1 then AV (some false)else some (LO.next (i64.wrap (v0+1))))else none else some (LO.brk 0 v0)) 0).bind (LO.fin fun i0 v0=>if i0=0 then some true else none))
theorem t132:tfn E132 f132 S132=G132:=by kernel_rfl
theorem c132:FT prog 132 S132 G132:=Av As Af Ae Ag Au func132 (by kernel_rfl) t132
theorem a132:Ad prog 132=true:=by kernel_rfl
def S165:Sig:=⟨[(false,yL),(false,yI),(false,yI)],[(false,0,.bool)]⟩
def E165:AF:=⟨⟨TB,[⟨132,S132,G132⟩],[],[],⟨16,[14],0⟩⟩,[],[]⟩
def G165(x:(LI×(Int×Int))):Option Bool:=(Option.bind (bif decide ((x.1.length:Int)=x.2.1)then(G132 (x.2.2,x.1)).bind fun v0=>some v0 else some false) (fun(v0:Bool)=>some v0))
theorem t165:tfn E165 f165 S165=G165:=by kernel_rfl
theorem c165:FT prog 165 S165 G165:=Av As (Ab a132 c132 Af) Ae Ag Au func165 (by kernel_rfl) t165
theorem a165:Ad prog 165=true:=by kernel_rfl
def S161:Sig:=⟨[(true,yC)],[(false,0,.bool)]⟩
def E161:AF:=⟨⟨TB,[⟨127,S127,G127⟩,⟨132,S132,G132⟩,⟨165,S165,G165⟩],[],[],⟨159,[1,25,34,54],0⟩⟩,[(7,[4],[]),(12,[5],[]),(17,[6],[])],[]⟩
def G161(x:Ca):Option Bool:=((G127 (x.1,(0,8))).bind fun v0=>Option.bind (bif !v0 then some true else some (decide (40<(x.2.1.length:Int)))) (fun(v1:Bool)=>Option.bind (bif v1 then some true else(G165 (x.2.1,((x.2.1.length:Int),x.1))).bind fun v2=>some (!v2)) (fun(v2:Bool)=>Option.bind (bif v2 then some true else(G165 (x.2.2.1,((x.2.1.length:Int),x.1))).bind fun v3=>some (!v3)) (fun(v3:Bool)=>Option.bind (bif v3 then some true else some (!decide ((x.2.2.2.2.length:Int)=(x.2.1.length:Int)))) (fun(v4:Bool)=>bif v4 then some false else Option.bind (bif !decide ((x.2.2.2.1.length:Int)=x.1)then some true else(G132 ((x.2.1.length:Int),x.2.2.2.1)).bind fun v5=>some (!v5)) (fun(v5:Bool)=>bif v5 then some false else(Am (fun(v6:Int)=>bif decide (v6<x.1)then if 0<=v6/\v6<(x.2.2.2.1.length:Int)then if 0<=(x.2.2.2.1.getD v6.toNat 0)/\(x.2.2.2.1.getD v6.toNat 0)<(x.2.1.length:Int)then Option.bind (bif !decide ((x.2.1.getD ((x.2.2.2.1.getD v6.toNat 0)).toNat 0)=v6)then some true else if 0<=v6/\v6<(x.2.2.2.1.length:Int)then if 0<=(x.2.2.2.1.getD v6.toNat 0)/\(x.2.2.2.1.getD v6.toNat 0)<(x.2.2.1.length:Int)then some (!decide ((x.2.2.1.getD ((x.2.2.2.1.getD v6.toNat 0)).toNat 0)=v6))else none else none) (fun(v7:Bool)=>bif v7 then AV (some false)else some (LO.next (i64.wrap (v6+1))))else none else none else some (LO.brk 0 v6)) 0).bind (LO.fin fun i6 v6=>if i6=0 then(Am (fun(v7:Int)=>bif decide (v7<(x.2.1.length:Int))then if 0<=v7/\v7<(x.2.2.2.2.length:Int)then bif !decide (((x.2.2.2.2.getD v7.toNat []).length:Int)=(x.2.1.length:Int))then AV (some false)else(Am (fun(v8:Int)=>bif decide (v8<(x.2.1.length:Int))then if 0<=v7/\v7<(x.2.2.2.2.length:Int)then if 0<=v8/\v8<((x.2.2.2.2.getD v7.toNat []).length:Int)then if 0<=v7/\v7<(x.2.2.1.length:Int)then if 0<=v8/\v8<(x.2.1.length:Int)then bif !decide ((x.2.2.1.getD v7.toNat 0)=(x.2.1.getD v8.toNat 0))then bif !decide (((x.2.2.2.2.getD v7.toNat []).getD v8.toNat 0)=(-1))then AV (AV (some false))else some (LO.next (i64.wrap (v8+1)))else Option.bind (bif decide (((x.2.2.2.2.getD v7.toNat []).getD v8.toNat 0)<0)then some true else some (decide ((x.2.1.length:Int)<=((x.2.2.2.2.getD v7.toNat []).getD v8.toNat 0)))) (fun(v9:Bool)=>Option.bind (bif v9 then some true else if 0<=((x.2.2.2.2.getD v7.toNat []).getD v8.toNat 0)/\((x.2.2.2.2.getD v7.toNat []).getD v8.toNat 0)<(x.2.1.length:Int)then if 0<=v7/\v7<(x.2.1.length:Int)then some (!decide ((x.2.1.getD (((x.2.2.2.2.getD v7.toNat []).getD v8.toNat 0)).toNat 0)=(x.2.1.getD v7.toNat 0)))else none else none) (fun(v10:Bool)=>Option.bind (bif v10 then some true else if 0<=((x.2.2.2.2.getD v7.toNat []).getD v8.toNat 0)/\((x.2.2.2.2.getD v7.toNat []).getD v8.toNat 0)<(x.2.2.1.length:Int)then if 0<=v8/\v8<(x.2.2.1.length:Int)then some (!decide ((x.2.2.1.getD (((x.2.2.2.2.getD v7.toNat []).getD v8.toNat 0)).toNat 0)=(x.2.2.1.getD v8.toNat 0)))else none else none) (fun(v11:Bool)=>bif v11 then AV (AV (some false))else some (LO.next (i64.wrap (v8+1))))))else none else none else none else none else some (LO.brk 4 v8)) 0).bind (LO.fin fun i8 v8=>if i8=4 then some (LO.next (i64.wrap (v7+1)))else none)else none else some (LO.brk 2 v7)) 0).bind (LO.fin fun i7 v7=>if i7=2 then some true else none)else none)))))))
theorem t161:tfn E161 f161 S161=G161:=by kernel_rfl
theorem c161:FT prog 161 S161 G161:=Av As (Ab a127 c127 (Ab a132 c132 (Ab a165 c165 Af))) Ae Ag Au func161 (by kernel_rfl) t161
theorem a161:Ad prog 161=true:=by kernel_rfl
def S162:Sig:=⟨[(true,yC)],[(false,0,yI),(false,0,yI),(false,0,yI),(false,0,yI)]⟩
def E162:AF:=⟨⟨TB,[],[],[],⟨131,[1],0⟩⟩,[(3,[7],[]),(8,[8],[]),(11,[9],[]),(15,[10],[])],[]⟩
def G162(x:Ca):Option (Int×(Int×(Int×Int))):=((Am (fun(v0:Int)=>bif decide (v0<(x.2.1.length:Int))then if 0<=v0/\v0<(x.2.1.length:Int)then if 0<=(x.2.1.getD v0.toNat 0)/\(x.2.1.getD v0.toNat 0)<(x.2.2.2.1.length:Int)then if 0<=(x.2.2.2.1.getD ((x.2.1.getD v0.toNat 0)).toNat 0)/\(x.2.2.2.1.getD ((x.2.1.getD v0.toNat 0)).toNat 0)<(x.2.2.2.2.length:Int)then if 0<=v0/\v0<((x.2.2.2.2.getD ((x.2.2.2.1.getD ((x.2.1.getD v0.toNat 0)).toNat 0)).toNat []).length:Int)then Option.bind (bif !decide (((x.2.2.2.2.getD ((x.2.2.2.1.getD ((x.2.1.getD v0.toNat 0)).toNat 0)).toNat []).getD v0.toNat 0)=v0)then some true else if 0<=v0/\v0<(x.2.2.2.2.length:Int)then if 0<=v0/\v0<(x.2.2.1.length:Int)then if 0<=(x.2.2.1.getD v0.toNat 0)/\(x.2.2.1.getD v0.toNat 0)<(x.2.2.2.1.length:Int)then if 0<=(x.2.2.2.1.getD ((x.2.2.1.getD v0.toNat 0)).toNat 0)/\(x.2.2.2.1.getD ((x.2.2.1.getD v0.toNat 0)).toNat 0)<((x.2.2.2.2.getD v0.toNat []).length:Int)then some (!decide (((x.2.2.2.2.getD v0.toNat []).getD ((x.2.2.2.1.getD ((x.2.2.1.getD v0.toNat 0)).toNat 0)).toNat 0)=v0))else none else none else none else none) (fun(v1:Bool)=>bif v1 then AV (some (1,(v0,(0,0))))else some (LO.next (i64.wrap (v0+1))))else none else none else none else none else some (LO.brk 0 v0)) 0).bind (LO.fin fun i0 v0=>if i0=0 then(Am (fun(v1:Int)=>bif decide (v1<(x.2.1.length:Int))then(Am (fun(v2:Int)=>bif decide (v2<(x.2.1.length:Int))then if 0<=v1/\v1<(x.2.2.1.length:Int)then if 0<=v2/\v2<(x.2.1.length:Int)then bif !decide ((x.2.2.1.getD v1.toNat 0)=(x.2.1.getD v2.toNat 0))then some (LO.next (i64.wrap (v2+1)))else(Am (fun(v3:Int)=>bif decide (v3<(x.2.1.length:Int))then if 0<=v2/\v2<(x.2.2.1.length:Int)then if 0<=v3/\v3<(x.2.1.length:Int)then Option.bind (bif decide ((x.2.2.1.getD v2.toNat 0)=(x.2.1.getD v3.toNat 0))then if 0<=v1/\v1<(x.2.2.2.2.length:Int)then if 0<=v2/\v2<((x.2.2.2.2.getD v1.toNat []).length:Int)then if 0<=((x.2.2.2.2.getD v1.toNat []).getD v2.toNat 0)/\((x.2.2.2.2.getD v1.toNat []).getD v2.toNat 0)<(x.2.2.2.2.length:Int)then if 0<=v3/\v3<((x.2.2.2.2.getD (((x.2.2.2.2.getD v1.toNat []).getD v2.toNat 0)).toNat []).length:Int)then if 0<=v1/\v1<(x.2.2.2.2.length:Int)then if 0<=v2/\v2<(x.2.2.2.2.length:Int)then if 0<=v3/\v3<((x.2.2.2.2.getD v2.toNat []).length:Int)then if 0<=((x.2.2.2.2.getD v2.toNat []).getD v3.toNat 0)/\((x.2.2.2.2.getD v2.toNat []).getD v3.toNat 0)<((x.2.2.2.2.getD v1.toNat []).length:Int)then some (!decide (((x.2.2.2.2.getD (((x.2.2.2.2.getD v1.toNat []).getD v2.toNat 0)).toNat []).getD v3.toNat 0)=((x.2.2.2.2.getD v1.toNat []).getD (((x.2.2.2.2.getD v2.toNat []).getD v3.toNat 0)).toNat 0)))else none else none else none else none else none else none else none else none else some false) (fun(v4:Bool)=>bif v4 then AV (AV (AV (some (2,(v1,(v2,v3))))))else some (LO.next (i64.wrap (v3+1))))else none else none else some (LO.brk 6 v3)) 0).bind (LO.fin fun i3 v3=>if i3=6 then some (LO.next (i64.wrap (v2+1)))else none)else none else none else some (LO.brk 4 v2)) 0).bind (LO.fin fun i2 v2=>if i2=4 then some (LO.next (i64.wrap (v1+1)))else none)else some (LO.brk 2 v1)) 0).bind (LO.fin fun i1 v1=>if i1=2 then some (0,(0,(0,0)))else none)else none))
theorem t162:tfn E162 f162 S162=G162:=by kernel_rfl
theorem c162:FT prog 162 S162 G162:=Av As Af Ae Ag Au func162 (by kernel_rfl) t162
theorem a162:Ad prog 162=true:=by kernel_rfl
def S155:Sig:=⟨[(true,yC)],[(false,0,.bool)]⟩
def E155:AF:=⟨⟨TB,[⟨161,S161,G161⟩,⟨162,S162,G162⟩],[],[],⟨19,[1],0⟩⟩,[],[]⟩
def G155(x:Ca):Option Bool:=((G161 (x.1,(x.2.1,(x.2.2.1,(x.2.2.2.1,x.2.2.2.2))))).bind fun v0=>bif !v0 then some false else(G162 (x.1,(x.2.1,(x.2.2.1,(x.2.2.2.1,x.2.2.2.2))))).bind fun v1=>some (decide (v1.1=0)))
theorem t155:tfn E155 f155 S155=G155:=by kernel_rfl
theorem c155:FT prog 155 S155 G155:=Av As (Ab a161 c161 (Ab a162 c162 Af)) Ae Ag Au func155 (by kernel_rfl) t155
theorem a155:Ad prog 155=true:=by kernel_rfl
def S145:Sig:=⟨[(true,ySF)],[(false,0,.bool)]⟩
def E145:AF:=⟨⟨TB,[⟨127,S127,G127⟩,⟨132,S132,G132⟩,⟨155,S155,G155⟩],[],[],⟨85,[1,82],0⟩⟩,[(4,[3],[]),(9,[4],[])],[]⟩
def G145(x:SF):Option Bool:=((G155 (x.1,(x.2.1,(x.2.2.1,(x.2.2.2.1,x.2.2.2.2.1))))).bind fun v0=>Option.bind (bif !v0 then some true else some (!decide ((x.2.2.2.2.2.1.length:Int)=x.1))) (fun(v1:Bool)=>Option.bind (bif v1 then some true else some (!decide ((x.2.2.2.2.2.2.length:Int)=(x.2.1.length:Int)))) (fun(v2:Bool)=>bif v2 then some false else(Am (fun(v3:Int)=>bif decide (v3<(x.2.2.2.2.2.1.length:Int))then if 0<=v3/\v3<(x.2.2.2.2.2.1.length:Int)then(G127 ((x.2.2.2.2.2.1.getD v3.toNat 0),(0,16))).bind fun v4=>bif !v4 then AV (some false)else some (LO.next (i64.wrap (v3+1)))else none else some (LO.brk 0 v3)) 0).bind (LO.fin fun i3 v3=>if i3=0 then(Am (fun(v4:Int)=>bif decide (v4<(x.2.2.2.2.2.2.length:Int))then if 0<=v4/\v4<(x.2.2.2.2.2.2.length:Int)then if 0<=v4/\v4<(x.2.1.length:Int)then if 0<=(x.2.1.getD v4.toNat 0)/\(x.2.1.getD v4.toNat 0)<(x.2.2.2.2.2.1.length:Int)then Option.bind (bif !decide (((x.2.2.2.2.2.2.getD v4.toNat []).length:Int)=(x.2.2.2.2.2.1.getD ((x.2.1.getD v4.toNat 0)).toNat 0))then some true else if 0<=v4/\v4<(x.2.2.1.length:Int)then if 0<=(x.2.2.1.getD v4.toNat 0)/\(x.2.2.1.getD v4.toNat 0)<(x.2.2.2.2.2.1.length:Int)then if 0<=v4/\v4<(x.2.2.2.2.2.2.length:Int)then(G132 ((x.2.2.2.2.2.1.getD ((x.2.2.1.getD v4.toNat 0)).toNat 0),(x.2.2.2.2.2.2.getD v4.toNat []))).bind fun v5=>some (!v5)else none else none else none) (fun(v5:Bool)=>bif v5 then AV (some false)else some (LO.next (i64.wrap (v4+1))))else none else none else none else some (LO.brk 2 v4)) 0).bind (LO.fin fun i4 v4=>if i4=2 then some true else none)else none))))
theorem t145:tfn E145 f145 S145=G145:=by kernel_rfl
theorem c145:FT prog 145 S145 G145:=Av As (Ab a127 c127 (Ab a132 c132 (Ab a155 c155 Af))) Ae Ag Au func145 (by kernel_rfl) t145
theorem a145:Ad prog 145=true:=by kernel_rfl
def S146:Sig:=⟨[(true,ySF)],[(false,0,yI),(false,0,yI),(false,0,yI),(false,0,yI)]⟩
def E146:AF:=⟨⟨TB,[],[],[],⟨117,[1],0⟩⟩,[(3,[6,7],[]),(6,[6,8],[]),(11,[6,9],[]),(14,[6,10],[]),(18,[6,11],[])],[]⟩
def G146(x:SF):Option (Int×(Int×(Int×Int))):=((Am (fun(v0:Int)=>bif decide (v0<x.1)then(Am (fun(v1:Int)=>if 0<=v0/\v0<(x.2.2.2.2.2.1.length:Int)then bif decide (v1<(x.2.2.2.2.2.1.getD v0.toNat 0))then if 0<=v0/\v0<(x.2.2.2.1.length:Int)then if 0<=(x.2.2.2.1.getD v0.toNat 0)/\(x.2.2.2.1.getD v0.toNat 0)<(x.2.2.2.2.2.2.length:Int)then if 0<=v1/\v1<((x.2.2.2.2.2.2.getD ((x.2.2.2.1.getD v0.toNat 0)).toNat []).length:Int)then bif !decide (((x.2.2.2.2.2.2.getD ((x.2.2.2.1.getD v0.toNat 0)).toNat []).getD v1.toNat 0)=v1)then AV (AV (some (1,(v0,(v1,0)))))else some (LO.next (i64.wrap (v1+1)))else none else none else none else some (LO.brk 2 v1)else none) 0).bind (LO.fin fun i1 v1=>if i1=2 then some (LO.next (i64.wrap (v0+1)))else none)else some (LO.brk 0 v0)) 0).bind (LO.fin fun i0 v0=>if i0=0 then(Am (fun(v1:Int)=>bif decide (v1<(x.2.1.length:Int))then(Am (fun(v2:Int)=>bif decide (v2<(x.2.1.length:Int))then if 0<=v1/\v1<(x.2.2.1.length:Int)then if 0<=v2/\v2<(x.2.1.length:Int)then bif !decide ((x.2.2.1.getD v1.toNat 0)=(x.2.1.getD v2.toNat 0))then some (LO.next (i64.wrap (v2+1)))else(Am (fun(v3:Int)=>if 0<=v1/\v1<(x.2.1.length:Int)then if 0<=(x.2.1.getD v1.toNat 0)/\(x.2.1.getD v1.toNat 0)<(x.2.2.2.2.2.1.length:Int)then bif decide (v3<(x.2.2.2.2.2.1.getD ((x.2.1.getD v1.toNat 0)).toNat 0))then if 0<=v1/\v1<(x.2.2.2.2.1.length:Int)then if 0<=v2/\v2<((x.2.2.2.2.1.getD v1.toNat []).length:Int)then if 0<=((x.2.2.2.2.1.getD v1.toNat []).getD v2.toNat 0)/\((x.2.2.2.2.1.getD v1.toNat []).getD v2.toNat 0)<(x.2.2.2.2.2.2.length:Int)then if 0<=v3/\v3<((x.2.2.2.2.2.2.getD (((x.2.2.2.2.1.getD v1.toNat []).getD v2.toNat 0)).toNat []).length:Int)then if 0<=v2/\v2<(x.2.2.2.2.2.2.length:Int)then if 0<=v1/\v1<(x.2.2.2.2.2.2.length:Int)then if 0<=v3/\v3<((x.2.2.2.2.2.2.getD v1.toNat []).length:Int)then if 0<=((x.2.2.2.2.2.2.getD v1.toNat []).getD v3.toNat 0)/\((x.2.2.2.2.2.2.getD v1.toNat []).getD v3.toNat 0)<((x.2.2.2.2.2.2.getD v2.toNat []).length:Int)then bif !decide (((x.2.2.2.2.2.2.getD (((x.2.2.2.2.1.getD v1.toNat []).getD v2.toNat 0)).toNat []).getD v3.toNat 0)=((x.2.2.2.2.2.2.getD v2.toNat []).getD (((x.2.2.2.2.2.2.getD v1.toNat []).getD v3.toNat 0)).toNat 0))then AV (AV (AV (some (2,(v1,(v2,v3))))))else some (LO.next (i64.wrap (v3+1)))else none else none else none else none else none else none else none else none else some (LO.brk 8 v3)else none else none) 0).bind (LO.fin fun i3 v3=>if i3=8 then some (LO.next (i64.wrap (v2+1)))else none)else none else none else some (LO.brk 6 v2)) 0).bind (LO.fin fun i2 v2=>if i2=6 then some (LO.next (i64.wrap (v1+1)))else none)else some (LO.brk 4 v1)) 0).bind (LO.fin fun i1 v1=>if i1=4 then some (0,(0,(0,0)))else none)else none))
theorem t146:tfn E146 f146 S146=G146:=by kernel_rfl
theorem c146:FT prog 146 S146 G146:=Av As Af Ae Ag Au func146 (by kernel_rfl) t146
theorem a146:Ad prog 146=true:=by kernel_rfl
def S128:Sig:=⟨[(true,ySF)],[(false,0,.bool)]⟩
def E128:AF:=⟨⟨TB,[⟨145,S145,G145⟩,⟨146,S146,G146⟩],[],[],⟨19,[1],0⟩⟩,[],[]⟩
def G128(x:SF):Option Bool:=((G145 (x.1,(x.2.1,(x.2.2.1,(x.2.2.2.1,(x.2.2.2.2.1,(x.2.2.2.2.2.1,x.2.2.2.2.2.2))))))).bind fun v0=>bif !v0 then some false else(G146 (x.1,(x.2.1,(x.2.2.1,(x.2.2.2.1,(x.2.2.2.2.1,(x.2.2.2.2.2.1,x.2.2.2.2.2.2))))))).bind fun v1=>some (decide (v1.1=0)))
theorem t128:tfn E128 f128 S128=G128:=by kernel_rfl
theorem c128:FT prog 128 S128 G128:=Av As (Ab a145 c145 (Ab a146 c146 Af)) Ae Ag Au func128 (by kernel_rfl) t128
theorem a128:Ad prog 128=true:=by kernel_rfl
def S133:Sig:=⟨[(false,yL),(false,yL)],[(false,0,.bool)]⟩
def E133:AF:=⟨⟨TB,[],[],[],⟨26,[],0⟩⟩,[(4,[5],[])],[]⟩
def G133(x:(LI×LI)):Option Bool:=(bif !decide ((x.1.length:Int)=(x.2.length:Int))then some false else(Am (fun(v0:Int)=>bif decide (v0<(x.1.length:Int))then if 0<=v0/\v0<(x.1.length:Int)then if 0<=v0/\v0<(x.2.length:Int)then bif !decide ((x.1.getD v0.toNat 0)=(x.2.getD v0.toNat 0))then AV (some false)else some (LO.next (i64.wrap (v0+1)))else none else none else some (LO.brk 0 v0)) 0).bind (LO.fin fun i0 v0=>if i0=0 then some true else none))
theorem t133:tfn E133 f133 S133=G133:=by kernel_rfl
theorem c133:FT prog 133 S133 G133:=Av As Af Ae Ag Au func133 (by kernel_rfl) t133
theorem a133:Ad prog 133=true:=by kernel_rfl
def S147:Sig:=⟨[(false,(.sl yL)),(false,(.sl yL))],[(false,0,.bool)]⟩
def E147:AF:=⟨⟨TB,[⟨133,S133,G133⟩],[],[],⟨27,[],0⟩⟩,[(4,[5],[])],[]⟩
def G147(x:(LL×LL)):Option Bool:=(bif !decide ((x.1.length:Int)=(x.2.length:Int))then some false else(Am (fun(v0:Int)=>bif decide (v0<(x.1.length:Int))then if 0<=v0/\v0<(x.1.length:Int)then if 0<=v0/\v0<(x.2.length:Int)then(G133 ((x.1.getD v0.toNat []),(x.2.getD v0.toNat []))).bind fun v1=>bif !v1 then AV (some false)else some (LO.next (i64.wrap (v0+1)))else none else none else some (LO.brk 0 v0)) 0).bind (LO.fin fun i0 v0=>if i0=0 then some true else none))
theorem t147:tfn E147 f147 S147=G147:=by kernel_rfl
theorem c147:FT prog 147 S147 G147:=Av As (Ab a133 c133 Af) Ae Ag Au func147 (by kernel_rfl) t147
theorem a147:Ad prog 147=true:=by kernel_rfl
def S129:Sig:=⟨[(true,yC),(true,yC)],[(false,0,.bool)]⟩
def E129:AF:=⟨⟨TB,[⟨133,S133,G133⟩,⟨147,S147,G147⟩],[],[],⟨38,[2,3,15,22,29,36],0⟩⟩,[],[]⟩
def G129(x:(Ca×Ca)):Option Bool:=(Option.bind (bif decide (x.1.1=x.2.1)then(G133 (x.1.2.1,x.2.2.1)).bind fun v0=>some v0 else some false) (fun(v0:Bool)=>Option.bind (bif v0 then(G133 (x.1.2.2.1,x.2.2.2.1)).bind fun v1=>some v1 else some false) (fun(v1:Bool)=>Option.bind (bif v1 then(G133 (x.1.2.2.2.1,x.2.2.2.2.1)).bind fun v2=>some v2 else some false) (fun(v2:Bool)=>Option.bind (bif v2 then(G147 (x.1.2.2.2.2,x.2.2.2.2.2)).bind fun v3=>some v3 else some false) (fun(v3:Bool)=>some v3)))))
theorem t129:tfn E129 f129 S129=G129:=by kernel_rfl
theorem c129:FT prog 129 S129 G129:=Av As (Ab a133 c133 (Ab a147 c147 Af)) Ae Ag Au func129 (by kernel_rfl) t129
theorem a129:Ad prog 129=true:=by kernel_rfl
def S148:Sig:=⟨[(false,yL)],[(false,0,.bool)]⟩
def E148:AF:=⟨⟨TB,[],[],[],⟨20,[],0⟩⟩,[(2,[3],[])],[]⟩
def G148(x:LI):Option Bool:=((Am (fun(v0:Int)=>bif decide (v0<(x.length:Int))then if 0<=v0/\v0<(x.length:Int)then if 0<=(i64.wrap (v0-1))/\(i64.wrap (v0-1))<(x.length:Int)then bif decide ((x.getD v0.toNat 0)<=(x.getD ((i64.wrap (v0-1))).toNat 0))then AV (some false)else some (LO.next (i64.wrap (v0+1)))else none else none else some (LO.brk 0 v0)) 1).bind (LO.fin fun i0 v0=>if i0=0 then some true else none))
theorem t148:tfn E148 f148 S148=G148:=by kernel_rfl
theorem c148:FT prog 148 S148 G148:=Av As Af Ae Ag Au func148 (by kernel_rfl) t148
theorem a148:Ad prog 148=true:=by kernel_rfl
def S66:Sig:=⟨[(false,(.sl ySF)),(false,yL),(false,yI)],[(false,1,yL)]⟩
def E66:AF:=⟨⟨TB,[],[],[],⟨31,[],0⟩⟩,[(3,[7,8],[1])],[]⟩
def G66(x:(LS×(LI×Int))):Option LI:=((Am (fun(v0:(Int×LI))=>bif decide (v0.1<(x.2.1.length:Int))then if 0<=v0.1/\v0.1<(x.2.1.length:Int)then if 0<=(x.2.1.getD v0.1.toNat 0)/\(x.2.1.getD v0.1.toNat 0)<(x.1.length:Int)then if 0<=x.2.2/\x.2.2<((x.1.getD ((x.2.1.getD v0.1.toNat 0)).toNat sf0).2.2.2.2.2.1.length:Int)then if(v0.2.length+(((x.1.getD ((x.2.1.getD v0.1.toNat 0)).toNat sf0).2.2.2.2.2.1.getD x.2.2.toNat 0):: []).length)<=17592186044416 then some (LO.next ((i64.wrap (v0.1+1)),(v0.2++(((x.1.getD ((x.2.1.getD v0.1.toNat 0)).toNat sf0).2.2.2.2.2.1.getD x.2.2.toNat 0):: []))))else none else none else none else none else some (LO.brk 0 (v0.1,v0.2))) (0,[])).bind (LO.fin fun i0 v0=>if i0=0 then some v0.2 else none))
theorem t66:tfn E66 f66 S66=G66:=by kernel_rfl
theorem c66:FT prog 66 S66 G66:=Av As Af Ae Ag Au func66 (by kernel_rfl) t66
theorem a66:Ad prog 66=true:=by kernel_rfl
def S95:Sig:=⟨[(false,yL)],[(false,0,yI)]⟩
def E95:AF:=⟨⟨TB,[],[],[],⟨37,[],0⟩⟩,[(2,[3],[]),(8,[4,5],[])],[]⟩
def G95(x:LI):Option Int:=((Am (fun(v0:Int)=>bif decide (v0<(x.length:Int))then if 0<=v0/\v0<(x.length:Int)then bif decide ((x.getD v0.toNat 0)=0)then AV (some 0)else some (LO.next (i64.wrap (v0+1)))else none else some (LO.brk 0 v0)) 0).bind (LO.fin fun i0 v0=>if i0=0 then(Am (fun(v1:(Int×Int))=>bif decide (v1.2<(x.length:Int))then if 0<=v1.2/\v1.2<(x.length:Int)then if(x.getD v1.2.toNat 0)≠0 then bif decide ((i64.wrap (Int.tdiv 1000000000000 (x.getD v1.2.toNat 0)))<v1.1)then AV (some (-1))else if 0<=v1.2/\v1.2<(x.length:Int)then some (LO.next ((i64.wrap (v1.1*(x.getD v1.2.toNat 0))),(i64.wrap (v1.2+1))))else none else none else none else some (LO.brk 2 (v1.1,v1.2))) (1,0)).bind (LO.fin fun i1 v1=>if i1=2 then some v1.1 else none)else none))
theorem t95:tfn E95 f95 S95=G95:=by kernel_rfl
theorem c95:FT prog 95 S95 G95:=Av As Af Ae Ag Au func95 (by kernel_rfl) t95
theorem a95:Ad prog 95=true:=by kernel_rfl
def S144:Sig:=⟨[(false,(.sl ySF)),(false,yL),(false,yI)],[(false,0,yI)]⟩
def E144:AF:=⟨⟨TB,[⟨66,S66,G66⟩,⟨95,S95,G95⟩],[],[],⟨12,[],0⟩⟩,[],[]⟩
def G144(x:(LS×(LI×Int))):Option Int:=((G66 (x.1,(x.2.1,x.2.2))).bind fun v0=>(G95 v0).bind fun v1=>some v1)
theorem t144:tfn E144 f144 S144=G144:=by kernel_rfl
theorem c144:FT prog 144 S144 G144:=Av As (Ab a66 c66 (Ab a95 c95 Af)) Ae Ag Au func144 (by kernel_rfl) t144
theorem a144:Ad prog 144=true:=by kernel_rfl
def S98:Sig:=⟨[(false,yL),(false,yI)],[(false,1,yL)]⟩
def E98:AF:=⟨⟨TB,[],[],[],⟨33,[],0⟩⟩,[(3,[1,5,6],[1])],[]⟩
def G98(x:(LI×Int)):Option LI:=(if(0<=(x.1.length:Int))/\(((x.1.length:Int)<=(x.1.length:Int))/\(((8*(x.1.length:Int))<=281474976710656)/\((x.1.length:Int)<=9223372036854775807)))then(Am (fun(v0:Nd)=>bif decide (0<=v0.2.1)then if 0<=v0.2.1/\v0.2.1<(x.1.length:Int)then if(x.1.getD v0.2.1.toNat 0)≠0 then if 0<=v0.2.1/\v0.2.1<(v0.2.2.length:Int)then if 0<=v0.2.1/\v0.2.1<(x.1.length:Int)then if(x.1.getD v0.2.1.toNat 0)≠0 then some (LO.next ((i64.wrap (Int.tdiv v0.1 (x.1.getD v0.2.1.toNat 0))),((i64.wrap (v0.2.1-1)),(v0.2.2.set v0.2.1.toNat (Int.tmod v0.1 (x.1.getD v0.2.1.toNat 0))))))else none else none else none else none else none else some (LO.brk 0 (v0.1,(v0.2.1,v0.2.2)))) (x.2,((i64.wrap ((x.1.length:Int)-1)),(List.replicate (x.1.length:Int).toNat (0:Int))))).bind (LO.fin fun i0 v0=>if i0=0 then some v0.2.2 else none)else none)
theorem t98:tfn E98 f98 S98=G98:=by kernel_rfl
theorem c98:FT prog 98 S98 G98:=Av As Af Ae Ag Au func98 (by kernel_rfl) t98
theorem a98:Ad prog 98=true:=by kernel_rfl
def S67:Sig:=⟨[(false,yL),(false,yL)],[(false,0,yI)]⟩
def E67:AF:=⟨⟨TB,[],[],[],⟨25,[],0⟩⟩,[(3,[5,6],[])],[]⟩
def G67(x:(LI×LI)):Option Int:=((Am (fun(v0:(Int×Int))=>bif decide (v0.2<(x.2.length:Int))then if 0<=v0.2/\v0.2<(x.1.length:Int)then if 0<=v0.2/\v0.2<(x.2.length:Int)then some (LO.next ((i64.wrap ((i64.wrap (v0.1*(x.1.getD v0.2.toNat 0)))+(x.2.getD v0.2.toNat 0))),(i64.wrap (v0.2+1))))else none else none else some (LO.brk 0 (v0.1,v0.2))) (0,0)).bind (LO.fin fun i0 v0=>if i0=0 then some v0.1 else none))
theorem t67:tfn E67 f67 S67=G67:=by kernel_rfl
theorem c67:FT prog 67 S67 G67:=Av As Af Ae Ag Au func67 (by kernel_rfl) t67
theorem a67:Ad prog 67=true:=by kernel_rfl
def S120:Sig:=⟨[(false,(.sl ySF)),(false,yL),(false,yI),(false,yI)],[(false,0,yI)]⟩
def E120:AF:=⟨⟨TB,[⟨66,S66,G66⟩,⟨98,S98,G98⟩,⟨67,S67,G67⟩],[],[],⟨62,[],0⟩⟩,[(4,[9,10,11],[0,2])],[]⟩
def G120(x:(LS×(LI×(Int×Int)))):Option Int:=(if(0:Int)<=(0:Int)/\0<(x.1.length:Int)then if 0<=x.2.2.1/\x.2.2.1<((x.1.getD (0:Int).toNat sf0).2.1.length:Int)then(G66 (x.1,(x.2.1,((x.1.getD (0:Int).toNat sf0).2.1.getD x.2.2.1.toNat 0)))).bind fun v0=>(G98 (v0,x.2.2.2)).bind fun v1=>(Am (fun(v2:(Int×(Int×(LI×(LI×(LI×(LL×LI)))))))=>bif decide (v2.1<(v2.2.2.2.2.2.2.length:Int))then if 0<=v2.1/\v2.1<(x.2.1.length:Int)then if 0<=(x.2.1.getD v2.1.toNat 0)/\(x.2.1.getD v2.1.toNat 0)<(x.1.length:Int)then if 0<=x.2.2.1/\x.2.2.1<((x.1.getD ((x.2.1.getD v2.1.toNat 0)).toNat sf0).2.2.2.2.2.2.length:Int)then if 0<=v2.1/\v2.1<(v2.2.2.2.2.2.2.length:Int)then if 0<=(v2.2.2.2.2.2.2.getD v2.1.toNat 0)/\(v2.2.2.2.2.2.2.getD v2.1.toNat 0)<(((x.1.getD ((x.2.1.getD v2.1.toNat 0)).toNat sf0).2.2.2.2.2.2.getD x.2.2.1.toNat []).length:Int)then if 0<=v2.1/\v2.1<(v2.2.2.2.2.2.2.length:Int)then some (LO.next ((i64.wrap (v2.1+1)),(v2.2.1,(v2.2.2.1,(v2.2.2.2.1,(v2.2.2.2.2.1,(v2.2.2.2.2.2.1,(v2.2.2.2.2.2.2.set v2.1.toNat (((x.1.getD ((x.2.1.getD v2.1.toNat 0)).toNat sf0).2.2.2.2.2.2.getD x.2.2.1.toNat []).getD ((v2.2.2.2.2.2.2.getD v2.1.toNat 0)).toNat 0)))))))))else none else none else none else none else none else none else some (LO.brk 0 (v2.1,(v2.2.1,(v2.2.2.1,(v2.2.2.2.1,(v2.2.2.2.2.1,(v2.2.2.2.2.2.1,v2.2.2.2.2.2.2)))))))) (0,((x.1.getD (0:Int).toNat sf0).1,((x.1.getD (0:Int).toNat sf0).2.1,((x.1.getD (0:Int).toNat sf0).2.2.1,((x.1.getD (0:Int).toNat sf0).2.2.2.1,((x.1.getD (0:Int).toNat sf0).2.2.2.2.1,v1))))))).bind (LO.fin fun i2 v2=>if i2=0 then if 0<=x.2.2.1/\x.2.2.1<(v2.2.2.2.1.length:Int)then(G66 (x.1,(x.2.1,(v2.2.2.2.1.getD x.2.2.1.toNat 0)))).bind fun v3=>(G67 (v3,v2.2.2.2.2.2.2)).bind fun v4=>some v4 else none else none)else none else none)
theorem t120:tfn E120 f120 S120=G120:=by kernel_rfl
theorem c120:FT prog 120 S120 G120:=Av As (Ab a66 c66 (Ab a98 c98 (Ab a67 c67 Af))) Ae Ag Au func120 (by kernel_rfl) t120
theorem a120:Ad prog 120=true:=by kernel_rfl
def S121:Sig:=⟨[(false,yL),(false,yI)],[(false,0,.bool)]⟩
def E121:AF:=⟨⟨TB,[],[],[],⟨18,[],0⟩⟩,[(2,[5],[])],[]⟩
def G121(x:(LI×Int)):Option Bool:=((Am (fun(v0:Int)=>bif decide (v0<(x.1.length:Int))then if 0<=v0/\v0<(x.1.length:Int)then bif decide ((x.1.getD v0.toNat 0)=x.2)then AV (some true)else some (LO.next (i64.wrap (v0+1)))else none else some (LO.brk 0 v0)) 0).bind (LO.fin fun i0 v0=>if i0=0 then some false else none))
theorem t121:tfn E121 f121 S121=G121:=by kernel_rfl
theorem c121:FT prog 121 S121 G121:=Av As Af Ae Ag Au func121 (by kernel_rfl) t121
theorem a121:Ad prog 121=true:=by kernel_rfl
def S130:Sig:=⟨[(false,(.sl ySF)),(true,yR)],[(false,0,.bool)]⟩
def E130:AF:=⟨⟨TB,[⟨132,S132,G132⟩,⟨148,S148,G148⟩,⟨144,S144,G144⟩,⟨120,S120,G120⟩,⟨121,S121,G121⟩],[],[],⟨112,[3,18,54,60],0⟩⟩,[(5,[5,6],[]),(10,[5,7],[]),(13,[5,8],[])],[]⟩
def G130(x:(LS×Rl)):Option Bool:=(Option.bind (bif decide (2<(x.2.1.length:Int))then some true else(G132 ((x.1.length:Int),x.2.1)).bind fun v0=>some (!v0)) (fun(v0:Bool)=>Option.bind (bif v0 then some true else if(0:Int)<=(0:Int)/\0<(x.1.length:Int)then some (!decide ((x.2.2.length:Int)=(x.1.getD (0:Int).toNat sf0).1))else none) (fun(v1:Bool)=>bif v1 then some false else if(0:Int)<=(0:Int)/\0<(x.1.length:Int)then(Am (fun(v2:Int)=>bif decide (v2<(x.1.getD (0:Int).toNat sf0).1)then if 0<=v2/\v2<(x.2.2.length:Int)then(G148 (x.2.2.getD v2.toNat [])).bind fun v3=>Option.bind (bif !v3 then some true else(G144 (x.1,(x.2.1,v2))).bind fun v4=>if 0<=v2/\v2<(x.2.2.length:Int)then(G132 (v4,(x.2.2.getD v2.toNat []))).bind fun v5=>some (!v5)else none) (fun(v4:Bool)=>bif v4 then AV (some false)else some (LO.next (i64.wrap (v2+1))))else none else some (LO.brk 0 v2)) 0).bind (LO.fin fun i2 v2=>if i2=0 then(Am (fun(v3:Int)=>bif decide (v3<((x.1.getD (0:Int).toNat sf0).2.1.length:Int))then(Am (fun(v4:Int)=>if 0<=v3/\v3<((x.1.getD (0:Int).toNat sf0).2.1.length:Int)then if 0<=((x.1.getD (0:Int).toNat sf0).2.1.getD v3.toNat 0)/\((x.1.getD (0:Int).toNat sf0).2.1.getD v3.toNat 0)<(x.2.2.length:Int)then bif decide (v4<((x.2.2.getD (((x.1.getD (0:Int).toNat sf0).2.1.getD v3.toNat 0)).toNat []).length:Int))then if 0<=v3/\v3<((x.1.getD (0:Int).toNat sf0).2.2.1.length:Int)then if 0<=((x.1.getD (0:Int).toNat sf0).2.2.1.getD v3.toNat 0)/\((x.1.getD (0:Int).toNat sf0).2.2.1.getD v3.toNat 0)<(x.2.2.length:Int)then if 0<=v3/\v3<((x.1.getD (0:Int).toNat sf0).2.1.length:Int)then if 0<=((x.1.getD (0:Int).toNat sf0).2.1.getD v3.toNat 0)/\((x.1.getD (0:Int).toNat sf0).2.1.getD v3.toNat 0)<(x.2.2.length:Int)then if 0<=v4/\v4<((x.2.2.getD (((x.1.getD (0:Int).toNat sf0).2.1.getD v3.toNat 0)).toNat []).length:Int)then(G120 (x.1,(x.2.1,(v3,((x.2.2.getD (((x.1.getD (0:Int).toNat sf0).2.1.getD v3.toNat 0)).toNat []).getD v4.toNat 0))))).bind fun v5=>(G121 ((x.2.2.getD (((x.1.getD (0:Int).toNat sf0).2.2.1.getD v3.toNat 0)).toNat []),v5)).bind fun v6=>bif !v6 then AV (AV (some false))else some (LO.next (i64.wrap (v4+1)))else none else none else none else none else none else some (LO.brk 4 v4)else none else none) 0).bind (LO.fin fun i4 v4=>if i4=4 then some (LO.next (i64.wrap (v3+1)))else none)else some (LO.brk 2 v3)) 0).bind (LO.fin fun i3 v3=>if i3=2 then some true else none)else none)else none)))
theorem t130:tfn E130 f130 S130=G130:=by kernel_rfl
theorem c130:FT prog 130 S130 G130:=Av As (Ab a132 c132 (Ab a148 c148 (Ab a144 c144 (Ab a120 c120 (Ab a121 c121 Af))))) Ae Ag Au func130 (by kernel_rfl) t130
theorem a130:Ad prog 130=true:=by kernel_rfl
def S103:Sig:=⟨[(true,ySt)],[(false,0,.bool)]⟩
def E103:AF:=⟨⟨TB,[⟨127,S127,G127⟩,⟨128,S128,G128⟩,⟨129,S129,G129⟩,⟨130,S130,G130⟩],[],[],⟨61,[1,42],0⟩⟩,[(4,[3],[]),(9,[4],[])],[]⟩
def G103(x:St):Option Bool:=((G127 ((x.1.length:Int),(1,3))).bind fun v0=>Option.bind (bif !v0 then some true else some (decide (4<(x.2.length:Int)))) (fun(v1:Bool)=>bif v1 then some false else(Am (fun(v2:Int)=>bif decide (v2<(x.1.length:Int))then if 0<=v2/\v2<(x.1.length:Int)then(G128 ((x.1.getD v2.toNat sf0).1,((x.1.getD v2.toNat sf0).2.1,((x.1.getD v2.toNat sf0).2.2.1,((x.1.getD v2.toNat sf0).2.2.2.1,((x.1.getD v2.toNat sf0).2.2.2.2.1,((x.1.getD v2.toNat sf0).2.2.2.2.2.1,(x.1.getD v2.toNat sf0).2.2.2.2.2.2))))))).bind fun v3=>Option.bind (bif !v3 then some true else if 0<=v2/\v2<(x.1.length:Int)then if(0:Int)<=(0:Int)/\0<(x.1.length:Int)then(G129 (((x.1.getD v2.toNat sf0).1,((x.1.getD v2.toNat sf0).2.1,((x.1.getD v2.toNat sf0).2.2.1,((x.1.getD v2.toNat sf0).2.2.2.1,(x.1.getD v2.toNat sf0).2.2.2.2.1)))),((x.1.getD (0:Int).toNat sf0).1,((x.1.getD (0:Int).toNat sf0).2.1,((x.1.getD (0:Int).toNat sf0).2.2.1,((x.1.getD (0:Int).toNat sf0).2.2.2.1,(x.1.getD (0:Int).toNat sf0).2.2.2.2.1)))))).bind fun v4=>some (!v4)else none else none) (fun(v4:Bool)=>bif v4 then AV (some false)else some (LO.next (i64.wrap (v2+1))))else none else some (LO.brk 0 v2)) 0).bind (LO.fin fun i2 v2=>if i2=0 then(Am (fun(v3:Int)=>bif decide (v3<(x.2.length:Int))then if 0<=v3/\v3<(x.2.length:Int)then(G130 (x.1,((x.2.getD v3.toNat rl0).1,(x.2.getD v3.toNat rl0).2))).bind fun v4=>bif !v4 then AV (some false)else some (LO.next (i64.wrap (v3+1)))else none else some (LO.brk 2 v3)) 0).bind (LO.fin fun i3 v3=>if i3=2 then some true else none)else none)))
theorem t103:tfn E103 f103 S103=G103:=by kernel_rfl
theorem c103:FT prog 103 S103 G103:=Av As (Ab a127 c127 (Ab a128 c128 (Ab a129 c129 (Ab a130 c130 Af)))) Ae Ag Au func103 (by kernel_rfl) t103
theorem a103:Ad prog 103=true:=by kernel_rfl
def S131:Sig:=⟨[(true,yN)],[(false,0,.bool)]⟩
def E131:AF:=⟨⟨TB,[⟨127,S127,G127⟩,⟨132,S132,G132⟩],[],[],⟨57,[1],0⟩⟩,[],[]⟩
def G131(x:Nd):Option Bool:=((G132 (4,x.2.2)).bind fun v0=>bif !v0 then some false else bif decide (x.1=2)then(G127 (x.2.1,(0,3))).bind fun v1=>Option.bind (bif v1 then some (decide ((x.2.2.length:Int)<=2))else some false) (fun(v2:Bool)=>some v2)else bif decide (x.1=3)then Option.bind (bif decide (x.2.1=0)then some (decide ((x.2.2.length:Int)=2))else some false) (fun(v1:Bool)=>some v1)else bif decide (x.1=7)then bif decide (x.1=7)then(G127 (x.2.1,(0,2))).bind fun v1=>Option.bind (bif v1 then some (decide ((x.2.2.length:Int)=0))else some false) (fun(v2:Bool)=>some v2)else(G127 (x.1,(0,8))).bind fun v1=>Option.bind (bif v1 then some (decide (x.2.1=0))else some false) (fun(v2:Bool)=>Option.bind (bif v2 then some (decide ((x.2.2.length:Int)=0))else some false) (fun(v3:Bool)=>some v3))else bif decide (x.1=8)then(G127 (x.2.1,(0,2))).bind fun v1=>Option.bind (bif v1 then some (decide ((x.2.2.length:Int)=0))else some false) (fun(v2:Bool)=>some v2)else(G127 (x.1,(0,8))).bind fun v1=>Option.bind (bif v1 then some (decide (x.2.1=0))else some false) (fun(v2:Bool)=>Option.bind (bif v2 then some (decide ((x.2.2.length:Int)=0))else some false) (fun(v3:Bool)=>some v3)))
theorem t131:tfn E131 f131 S131=G131:=by kernel_rfl
theorem c131:FT prog 131 S131 G131:=Av As (Ab a127 c127 (Ab a132 c132 Af)) Ae Ag Au func131 (by kernel_rfl) t131
theorem a131:Ad prog 131=true:=by kernel_rfl
def S93:Sig:=⟨[(false,yI)],[(false,0,yI)]⟩
def E93:AF:=⟨⟨TB,[],[],[],⟨11,[],0⟩⟩,[],[]⟩
def G93(x:Int):Option Int:=(bif decide (x=4)then bif decide (x=4)then some 2 else bif decide (x=7)then bif decide (x=7)then some 1 else some 0 else bif decide (x=8)then some 1 else some 0 else bif decide (x=5)then bif decide (x=5)then some 2 else bif decide (x=7)then bif decide (x=7)then some 1 else some 0 else bif decide (x=8)then some 1 else some 0 else bif decide (x=6)then some 2 else bif decide (x=7)then bif decide (x=7)then some 1 else some 0 else bif decide (x=8)then some 1 else some 0)
theorem t93:tfn E93 f93 S93=G93:=by kernel_rfl
theorem c93:FT prog 93 S93 G93:=Av As Af Ae Ag Au func93 (by kernel_rfl) t93
theorem a93:Ad prog 93=true:=by kernel_rfl
def S94:Sig:=⟨[(false,(.sl yN)),(false,yI)],[(false,0,yI)]⟩
def E94:AF:=⟨⟨TB,[⟨93,S93,G93⟩],[],[],⟨24,[],0⟩⟩,[(2,[1,5],[])],[]⟩
def G94(x:(LN×Int)):Option Int:=((Am (fun(v0:(Int×Int))=>bif decide (0<v0.2)then bif decide ((x.1.length:Int)<=v0.1)then AV (some (-1))else if 0<=v0.1/\v0.1<(x.1.length:Int)then(G93 (x.1.getD v0.1.toNat nd0).1).bind fun v1=>some (LO.next ((i64.wrap (v0.1+1)),(i64.wrap ((i64.wrap (v0.2-1))+v1))))else none else some (LO.brk 0 (v0.1,v0.2))) (x.2,1)).bind (LO.fin fun i0 v0=>if i0=0 then some v0.1 else none))
theorem t94:tfn E94 f94 S94=G94:=by kernel_rfl
theorem c94:FT prog 94 S94 G94:=Av As (Ab a93 c93 Af) Ae Ag Au func94 (by kernel_rfl) t94
theorem a94:Ad prog 94=true:=by kernel_rfl
def S104:Sig:=⟨[(false,(.sl yN))],[(false,0,.bool)]⟩
def E104:AF:=⟨⟨TB,[⟨127,S127,G127⟩,⟨131,S131,G131⟩,⟨94,S94,G94⟩],[],[],⟨25,[],0⟩⟩,[(4,[3],[])],[]⟩
def G104(x:LN):Option Bool:=((G127 ((x.length:Int),(1,40))).bind fun v0=>bif !v0 then some false else(Am (fun(v1:Int)=>bif decide (v1<(x.length:Int))then if 0<=v1/\v1<(x.length:Int)then(G131 ((x.getD v1.toNat nd0).1,((x.getD v1.toNat nd0).2.1,(x.getD v1.toNat nd0).2.2))).bind fun v2=>bif !v2 then AV (some false)else some (LO.next (i64.wrap (v1+1)))else none else some (LO.brk 0 v1)) 0).bind (LO.fin fun i1 v1=>if i1=0 then(G94 (x,0)).bind fun v2=>some (decide (v2=(x.length:Int)))else none))
theorem t104:tfn E104 f104 S104=G104:=by kernel_rfl
theorem c104:FT prog 104 S104 G104:=Av As (Ab a127 c127 (Ab a131 c131 (Ab a94 c94 Af))) Ae Ag Au func104 (by kernel_rfl) t104
theorem a104:Ad prog 104=true:=by kernel_rfl
def S105:Sig:=⟨[(true,ySt),(false,yL)],[(false,0,.bool)]⟩
def E105:AF:=⟨⟨TB,[⟨132,S132,G132⟩],[],[],⟨15,[2,13],0⟩⟩,[],[]⟩
def G105(x:(St×LI)):Option Bool:=(Option.bind (bif decide ((x.2.length:Int)<=4)then(G132 ((x.1.1.length:Int),x.2)).bind fun v0=>some v0 else some false) (fun(v0:Bool)=>some v0))
theorem t105:tfn E105 f105 S105=G105:=by kernel_rfl
theorem c105:FT prog 105 S105 G105:=Av As (Ab a132 c132 Af) Ae Ag Au func105 (by kernel_rfl) t105
theorem a105:Ad prog 105=true:=by kernel_rfl
def S122:Sig:=⟨[(false,yL),(false,yL)],[(false,1,yL)]⟩
def E122:AF:=⟨⟨TB,[],[],[],⟨25,[],0⟩⟩,[(3,[5,6],[1])],[]⟩
def G122(x:(LI×LI)):Option LI:=((Am (fun(v0:(Int×LI))=>bif decide (v0.1<(x.1.length:Int))then if 0<=v0.1/\v0.1<(x.1.length:Int)then if 0<=(x.1.getD v0.1.toNat 0)/\(x.1.getD v0.1.toNat 0)<(x.2.length:Int)then if(v0.2.length+((x.2.getD ((x.1.getD v0.1.toNat 0)).toNat 0):: []).length)<=17592186044416 then some (LO.next ((i64.wrap (v0.1+1)),(v0.2++((x.2.getD ((x.1.getD v0.1.toNat 0)).toNat 0):: []))))else none else none else none else some (LO.brk 0 (v0.1,v0.2))) (0,[])).bind (LO.fin fun i0 v0=>if i0=0 then some v0.2 else none))
theorem t122:tfn E122 f122 S122=G122:=by kernel_rfl
theorem c122:FT prog 122 S122 G122:=Av As Af Ae Ag Au func122 (by kernel_rfl) t122
theorem a122:Ad prog 122=true:=by kernel_rfl
def S78:Sig:=⟨[(false,yL)],[(false,1,yL)]⟩
def E78:AF:=⟨⟨TB,[],[],[],⟨6,[],0⟩⟩,[],[]⟩
def G78(x:LI):Option LI:=(if(([]:LI).length+x.length)<=17592186044416 then some (([]:LI)++x)else none)
theorem t78:tfn E78 f78 S78=G78:=by kernel_rfl
theorem c78:FT prog 78 S78 G78:=Av As Af Ae Ag Au func78 (by kernel_rfl) t78
theorem a78:Ad prog 78=true:=by kernel_rfl
def S106:Sig:=⟨[(true,ySt),(false,yL),(false,(.sl yN)),(false,yI)],[(false,0,.bool)]⟩
def E106(r:(PT S106.ps).T->Option (RT S106.rs).T):AF:=⟨⟨TB,[⟨106,S106,r⟩,⟨132,S132,G132⟩,⟨133,S133,G133⟩,⟨94,S94,G94⟩,⟨122,S122,G122⟩,⟨78,S78,G78⟩],[],[],⟨118,[4,90,91],0⟩⟩,[],[(19,10)]⟩
def B106(r:(St×(LI×(LN×Int)))->Option Bool)(x:(St×(LI×(LN×Int)))):Option Bool:=(if 0<=x.2.2.2/\x.2.2.2<(x.2.2.1.length:Int)then(G132 ((x.2.1.length:Int),(x.2.2.1.getD x.2.2.2.toNat nd0).2.2)).bind fun v0=>bif !v0 then some false else bif decide ((x.2.2.1.getD x.2.2.2.toNat nd0).1=2)then Option.bind (bif decide ((x.1.2.length:Int)<=(x.2.2.1.getD x.2.2.2.toNat nd0).2.1)then some true else if 0<=(x.2.2.1.getD x.2.2.2.toNat nd0).2.1/\(x.2.2.1.getD x.2.2.2.toNat nd0).2.1<(x.1.2.length:Int)then some (!decide (((x.2.2.1.getD x.2.2.2.toNat nd0).2.2.length:Int)=((x.1.2.getD ((x.2.2.1.getD x.2.2.2.toNat nd0).2.1).toNat rl0).1.length:Int)))else none) (fun(v1:Bool)=>bif v1 then some false else(G122 ((x.2.2.1.getD x.2.2.2.toNat nd0).2.2,x.2.1)).bind fun v2=>if 0<=(x.2.2.1.getD x.2.2.2.toNat nd0).2.1/\(x.2.2.1.getD x.2.2.2.toNat nd0).2.1<(x.1.2.length:Int)then(G133 (v2,(x.1.2.getD ((x.2.2.1.getD x.2.2.2.toNat nd0).2.1).toNat rl0).1)).bind fun v3=>some v3 else none)else bif decide ((x.2.2.1.getD x.2.2.2.toNat nd0).1=3)then if(0:Int)<=(0:Int)/\0<((x.2.2.1.getD x.2.2.2.toNat nd0).2.2.length:Int)then if 0<=((x.2.2.1.getD x.2.2.2.toNat nd0).2.2.getD (0:Int).toNat 0)/\((x.2.2.1.getD x.2.2.2.toNat nd0).2.2.getD (0:Int).toNat 0)<(x.2.1.length:Int)then if(0:Int)<=(1:Int)/\1<((x.2.2.1.getD x.2.2.2.toNat nd0).2.2.length:Int)then if 0<=((x.2.2.1.getD x.2.2.2.toNat nd0).2.2.getD (1:Int).toNat 0)/\((x.2.2.1.getD x.2.2.2.toNat nd0).2.2.getD (1:Int).toNat 0)<(x.2.1.length:Int)then some (decide ((x.2.1.getD (((x.2.2.1.getD x.2.2.2.toNat nd0).2.2.getD (0:Int).toNat 0)).toNat 0)=(x.2.1.getD (((x.2.2.1.getD x.2.2.2.toNat nd0).2.2.getD (1:Int).toNat 0)).toNat 0)))else none else none else none else none else bif decide ((x.2.2.1.getD x.2.2.2.toNat nd0).1=4)then bif decide ((x.2.2.1.getD x.2.2.2.toNat nd0).1=4)then(r ((x.1.1,x.1.2),(x.2.1,(x.2.2.1,(i64.wrap (x.2.2.2+1)))))).bind fun v1=>Option.bind (bif v1 then(G94 (x.2.2.1,(i64.wrap (x.2.2.2+1)))).bind fun v2=>(r ((x.1.1,x.1.2),(x.2.1,(x.2.2.1,v2)))).bind fun v3=>some v3 else some false) (fun(v2:Bool)=>some v2)else bif decide ((x.2.2.1.getD x.2.2.2.toNat nd0).1=7)then bif decide ((x.2.2.1.getD x.2.2.2.toNat nd0).1=7)then Option.bind (bif decide ((x.1.1.length:Int)<=(x.2.2.1.getD x.2.2.2.toNat nd0).2.1)then some true else some (decide ((x.2.1.length:Int)=4))) (fun(v1:Bool)=>bif v1 then some false else(G78 x.2.1).bind fun v2=>if(v2.length+((x.2.2.1.getD x.2.2.2.toNat nd0).2.1:: []).length)<=17592186044416 then(r ((x.1.1,x.1.2),((v2++((x.2.2.1.getD x.2.2.2.toNat nd0).2.1:: [])),(x.2.2.1,(i64.wrap (x.2.2.2+1)))))).bind fun v3=>some v3 else none)else some true else bif decide ((x.2.2.1.getD x.2.2.2.toNat nd0).1=8)then Option.bind (bif decide ((x.1.1.length:Int)<=(x.2.2.1.getD x.2.2.2.toNat nd0).2.1)then some true else some (decide ((x.2.1.length:Int)=4))) (fun(v1:Bool)=>bif v1 then some false else(G78 x.2.1).bind fun v2=>if(v2.length+((x.2.2.1.getD x.2.2.2.toNat nd0).2.1:: []).length)<=17592186044416 then(r ((x.1.1,x.1.2),((v2++((x.2.2.1.getD x.2.2.2.toNat nd0).2.1:: [])),(x.2.2.1,(i64.wrap (x.2.2.2+1)))))).bind fun v3=>some v3 else none)else some true else bif decide ((x.2.2.1.getD x.2.2.2.toNat nd0).1=5)then bif decide ((x.2.2.1.getD x.2.2.2.toNat nd0).1=5)then(r ((x.1.1,x.1.2),(x.2.1,(x.2.2.1,(i64.wrap (x.2.2.2+1)))))).bind fun v1=>Option.bind (bif v1 then(G94 (x.2.2.1,(i64.wrap (x.2.2.2+1)))).bind fun v2=>(r ((x.1.1,x.1.2),(x.2.1,(x.2.2.1,v2)))).bind fun v3=>some v3 else some false) (fun(v2:Bool)=>some v2)else bif decide ((x.2.2.1.getD x.2.2.2.toNat nd0).1=7)then bif decide ((x.2.2.1.getD x.2.2.2.toNat nd0).1=7)then Option.bind (bif decide ((x.1.1.length:Int)<=(x.2.2.1.getD x.2.2.2.toNat nd0).2.1)then some true else some (decide ((x.2.1.length:Int)=4))) (fun(v1:Bool)=>bif v1 then some false else(G78 x.2.1).bind fun v2=>if(v2.length+((x.2.2.1.getD x.2.2.2.toNat nd0).2.1:: []).length)<=17592186044416 then(r ((x.1.1,x.1.2),((v2++((x.2.2.1.getD x.2.2.2.toNat nd0).2.1:: [])),(x.2.2.1,(i64.wrap (x.2.2.2+1)))))).bind fun v3=>some v3 else none)else some true else bif decide ((x.2.2.1.getD x.2.2.2.toNat nd0).1=8)then Option.bind (bif decide ((x.1.1.length:Int)<=(x.2.2.1.getD x.2.2.2.toNat nd0).2.1)then some true else some (decide ((x.2.1.length:Int)=4))) (fun(v1:Bool)=>bif v1 then some false else(G78 x.2.1).bind fun v2=>if(v2.length+((x.2.2.1.getD x.2.2.2.toNat nd0).2.1:: []).length)<=17592186044416 then(r ((x.1.1,x.1.2),((v2++((x.2.2.1.getD x.2.2.2.toNat nd0).2.1:: [])),(x.2.2.1,(i64.wrap (x.2.2.2+1)))))).bind fun v3=>some v3 else none)else some true else bif decide ((x.2.2.1.getD x.2.2.2.toNat nd0).1=6)then(r ((x.1.1,x.1.2),(x.2.1,(x.2.2.1,(i64.wrap (x.2.2.2+1)))))).bind fun v1=>Option.bind (bif v1 then(G94 (x.2.2.1,(i64.wrap (x.2.2.2+1)))).bind fun v2=>(r ((x.1.1,x.1.2),(x.2.1,(x.2.2.1,v2)))).bind fun v3=>some v3 else some false) (fun(v2:Bool)=>some v2)else bif decide ((x.2.2.1.getD x.2.2.2.toNat nd0).1=7)then bif decide ((x.2.2.1.getD x.2.2.2.toNat nd0).1=7)then Option.bind (bif decide ((x.1.1.length:Int)<=(x.2.2.1.getD x.2.2.2.toNat nd0).2.1)then some true else some (decide ((x.2.1.length:Int)=4))) (fun(v1:Bool)=>bif v1 then some false else(G78 x.2.1).bind fun v2=>if(v2.length+((x.2.2.1.getD x.2.2.2.toNat nd0).2.1:: []).length)<=17592186044416 then(r ((x.1.1,x.1.2),((v2++((x.2.2.1.getD x.2.2.2.toNat nd0).2.1:: [])),(x.2.2.1,(i64.wrap (x.2.2.2+1)))))).bind fun v3=>some v3 else none)else some true else bif decide ((x.2.2.1.getD x.2.2.2.toNat nd0).1=8)then Option.bind (bif decide ((x.1.1.length:Int)<=(x.2.2.1.getD x.2.2.2.toNat nd0).2.1)then some true else some (decide ((x.2.1.length:Int)=4))) (fun(v1:Bool)=>bif v1 then some false else(G78 x.2.1).bind fun v2=>if(v2.length+((x.2.2.1.getD x.2.2.2.toNat nd0).2.1:: []).length)<=17592186044416 then(r ((x.1.1,x.1.2),((v2++((x.2.2.1.getD x.2.2.2.toNat nd0).2.1:: [])),(x.2.2.1,(i64.wrap (x.2.2.2+1)))))).bind fun v3=>some v3 else none)else some true else none)
def R106:Nat->(St×(LI×(LN×Int)))->Option Bool
 |0,_=>none
 |n+1,x=>B106 (R106 n) x
def G106(x:(St×(LI×(LN×Int)))):Option Bool:=R106 4096 x
theorem t106:(fun r=>tfn (E106 r) f106 S106)=B106:=by kernel_rfl
theorem a106:Ad prog 106=true:=by kernel_rfl
theorem b106{r:(PT S106.ps).T->Option (RT S106.rs).T}(h:FT prog 106 S106 r):FT prog 106 S106 (B106 r):=Av (E:=E106 r) As (Ab a106 h (Ab a132 c132 (Ab a133 c133 (Ab a94 c94 (Ab a122 c122 (Ab a78 c78 Af)))))) Ae Ag Au func106 (by kernel_rfl) (congrFun t106 r)
theorem r106: ∀n,FT prog 106 S106 (R106 n)
 |0=>fun _ _ h=>by cases h
 |n+1=>b106 (r106 n)
theorem c106:FT prog 106 S106 G106:=r106 4096
def S64:Sig:=⟨[(true,ySt),(false,yL),(false,(.sl yN))],[(false,0,yI)]⟩
def E64:AF:=⟨⟨TB,[⟨103,S103,G103⟩,⟨104,S104,G104⟩,⟨105,S105,G105⟩,⟨106,S106,G106⟩],[],[],⟨27,[3,13],0⟩⟩,[],[]⟩
def G64(x:(St×(LI×LN))):Option Int:=((G103 (x.1.1,x.1.2)).bind fun v0=>Option.bind (bif !v0 then some true else(G104 x.2.2).bind fun v1=>some (!v1)) (fun(v1:Bool)=>bif v1 then some 1 else(G105 ((x.1.1,x.1.2),x.2.1)).bind fun v2=>bif !v2 then some 2 else(G106 ((x.1.1,x.1.2),(x.2.1,(x.2.2,0)))).bind fun v3=>bif !v3 then some 5 else some 0))
theorem t64:tfn E64 f64 S64=G64:=by kernel_rfl
theorem c64:FT prog 64 S64 G64:=Av As (Ab a103 c103 (Ab a104 c104 (Ab a105 c105 (Ab a106 c106 Af)))) Ae Ag Au func64 (by kernel_rfl) t64
theorem a64:Ad prog 64=true:=by kernel_rfl
def S119:Sig:=⟨[(true,ySt),(false,yL)],[(false,0,.bool)]⟩
def E119:AF:=⟨⟨TB,[⟨144,S144,G144⟩],[],[],⟨28,[2],0⟩⟩,[(2,[5],[])],[]⟩
def G119(x:(St×LI)):Option Bool:=((Am (fun(v0:Int)=>if(0:Int)<=(0:Int)/\0<(x.1.1.length:Int)then bif decide (v0<(x.1.1.getD (0:Int).toNat sf0).1)then(G144 (x.1.1,(x.2,v0))).bind fun v1=>Option.bind (bif decide (v1<0)then some true else some (decide (256<v1))) (fun(v2:Bool)=>bif v2 then AV (some false)else some (LO.next (i64.wrap (v0+1))))else some (LO.brk 0 v0)else none) 0).bind (LO.fin fun i0 v0=>if i0=0 then some true else none))
theorem t119:tfn E119 f119 S119=G119:=by kernel_rfl
theorem c119:FT prog 119 S119 G119:=Av As (Ab a144 c144 Af) Ae Ag Au func119 (by kernel_rfl) t119
theorem a119:Ad prog 119=true:=by kernel_rfl
def S92:Sig:=⟨[(true,ySt),(false,yL),(false,(.sl yN)),(false,yI)],[(false,0,.bool)]⟩
def E92(r:(PT S92.ps).T->Option (RT S92.rs).T):AF:=⟨⟨TB,[⟨92,S92,r⟩,⟨119,S119,G119⟩,⟨93,S93,G93⟩,⟨94,S94,G94⟩,⟨78,S78,G78⟩],[],[],⟨53,[4,34,35],0⟩⟩,[],[(7,13)]⟩
def B92(r:(St×(LI×(LN×Int)))->Option Bool)(x:(St×(LI×(LN×Int)))):Option Bool:=((G119 ((x.1.1,x.1.2),x.2.1)).bind fun v0=>bif !v0 then some false else if 0<=x.2.2.2/\x.2.2.2<(x.2.2.1.length:Int)then(G93 (x.2.2.1.getD x.2.2.2.toNat nd0).1).bind fun v1=>bif decide (v1=2)then(r ((x.1.1,x.1.2),(x.2.1,(x.2.2.1,(i64.wrap (x.2.2.2+1)))))).bind fun v2=>Option.bind (bif v2 then(G94 (x.2.2.1,(i64.wrap (x.2.2.2+1)))).bind fun v3=>(r ((x.1.1,x.1.2),(x.2.1,(x.2.2.1,v3)))).bind fun v4=>some v4 else some false) (fun(v3:Bool)=>some v3)else bif decide (v1=1)then(G78 x.2.1).bind fun v2=>if 0<=x.2.2.2/\x.2.2.2<(x.2.2.1.length:Int)then if(v2.length+((x.2.2.1.getD x.2.2.2.toNat nd0).2.1:: []).length)<=17592186044416 then(r ((x.1.1,x.1.2),((v2++((x.2.2.1.getD x.2.2.2.toNat nd0).2.1:: [])),(x.2.2.1,(i64.wrap (x.2.2.2+1)))))).bind fun v3=>some v3 else none else none else some true else none)
def R92:Nat->(St×(LI×(LN×Int)))->Option Bool
 |0,_=>none
 |n+1,x=>B92 (R92 n) x
def G92(x:(St×(LI×(LN×Int)))):Option Bool:=R92 4096 x
theorem t92:(fun r=>tfn (E92 r) f92 S92)=B92:=by kernel_rfl
theorem a92:Ad prog 92=true:=by kernel_rfl
theorem b92{r:(PT S92.ps).T->Option (RT S92.rs).T}(h:FT prog 92 S92 r):FT prog 92 S92 (B92 r):=Av (E:=E92 r) As (Ab a92 h (Ab a119 c119 (Ab a93 c93 (Ab a94 c94 (Ab a78 c78 Af))))) Ae Ag Au func92 (by kernel_rfl) (congrFun t92 r)
theorem r92: ∀n,FT prog 92 S92 (R92 n)
 |0=>fun _ _ h=>by cases h
 |n+1=>b92 (r92 n)
theorem c92:FT prog 92 S92 G92:=r92 4096
def S51:Sig:=⟨[(true,ySt),(false,yL),(false,(.sl yN))],[(false,0,yI)]⟩
def E51:AF:=⟨⟨TB,[⟨92,S92,G92⟩,⟨64,S64,G64⟩],[],[],⟨22,[3,18],0⟩⟩,[],[]⟩
def G51(x:(St×(LI×LN))):Option Int:=((G64 ((x.1.1,x.1.2),(x.2.1,x.2.2))).bind fun v0=>Option.bind (bif decide (v0=0)then(G92 ((x.1.1,x.1.2),(x.2.1,(x.2.2,0)))).bind fun v1=>some (!v1)else some false) (fun(v1:Bool)=>bif v1 then some 3 else some v0))
theorem t51:tfn E51 f51 S51=G51:=by kernel_rfl
theorem c51:FT prog 51 S51 G51:=Av As (Ab a92 c92 (Ab a64 c64 Af)) Ae Ag Au func51 (by kernel_rfl) t51
theorem a51:Ad prog 51=true:=by kernel_rfl
def S96:Sig:=⟨[(true,ySt),(false,yL),(true,yN),(false,yI),(false,yI),(false,(.sl (.sl .bool))),(false,(.sl (.sl .bool)))],[(false,0,.bool)]⟩
def E96:AF:=⟨⟨TB,[⟨120,S120,G120⟩],[],[],⟨98,[7,9],0⟩⟩,[(3,[15,16],[]),(12,[15,20],[])],[]⟩
def G96(x:(St×(LI×(Nd×(Int×(Int×(LLB×LLB))))))):Option Bool:=(if(0:Int)<=(0:Int)/\0<(x.1.1.length:Int)then(Am (fun(v0:Int)=>bif decide (v0<((x.1.1.getD (0:Int).toNat sf0).2.1.length:Int))then if 0<=v0/\v0<((x.1.1.getD (0:Int).toNat sf0).2.1.length:Int)then bif !decide (((x.1.1.getD (0:Int).toNat sf0).2.1.getD v0.toNat 0)=x.2.2.2.1)then some (LO.next (i64.wrap (v0+1)))else if 0<=v0/\v0<((x.1.1.getD (0:Int).toNat sf0).2.2.1.length:Int)then(G120 (x.1.1,(x.2.1,(v0,x.2.2.2.2.1)))).bind fun v1=>bif decide (x.2.2.1.1=6)then if 0<=((x.1.1.getD (0:Int).toNat sf0).2.2.1.getD v0.toNat 0)/\((x.1.1.getD (0:Int).toNat sf0).2.2.1.getD v0.toNat 0)<(x.2.2.2.2.2.1.length:Int)then if 0<=v1/\v1<((x.2.2.2.2.2.1.getD (((x.1.1.getD (0:Int).toNat sf0).2.2.1.getD v0.toNat 0)).toNat []).length:Int)then Option.bind (bif(x.2.2.2.2.2.1.getD (((x.1.1.getD (0:Int).toNat sf0).2.2.1.getD v0.toNat 0)).toNat []).getD v1.toNat false then if 0<=((x.1.1.getD (0:Int).toNat sf0).2.2.1.getD v0.toNat 0)/\((x.1.1.getD (0:Int).toNat sf0).2.2.1.getD v0.toNat 0)<(x.2.2.2.2.2.2.length:Int)then if 0<=v1/\v1<((x.2.2.2.2.2.2.getD (((x.1.1.getD (0:Int).toNat sf0).2.2.1.getD v0.toNat 0)).toNat []).length:Int)then some (!((x.2.2.2.2.2.2.getD (((x.1.1.getD (0:Int).toNat sf0).2.2.1.getD v0.toNat 0)).toNat []).getD v1.toNat false))else none else none else some false) (fun(v2:Bool)=>bif v2 then AV (some false)else some (LO.next (i64.wrap (v0+1))))else none else none else if 0<=x.2.2.1.2.1/\x.2.2.1.2.1<(x.1.1.length:Int)then if 0<=((x.1.1.getD (0:Int).toNat sf0).2.2.1.getD v0.toNat 0)/\((x.1.1.getD (0:Int).toNat sf0).2.2.1.getD v0.toNat 0)<((x.1.1.getD x.2.2.1.2.1.toNat sf0).2.2.2.2.2.1.length:Int)then(Am (fun(v2:Int)=>bif decide (v2<((x.1.1.getD x.2.2.1.2.1.toNat sf0).2.2.2.2.2.1.getD (((x.1.1.getD (0:Int).toNat sf0).2.2.1.getD v0.toNat 0)).toNat 0))then if 0<=((x.1.1.getD (0:Int).toNat sf0).2.2.1.getD v0.toNat 0)/\((x.1.1.getD (0:Int).toNat sf0).2.2.1.getD v0.toNat 0)<(x.2.2.2.2.2.1.length:Int)then if 0<=(i64.wrap ((i64.wrap (v1*((x.1.1.getD x.2.2.1.2.1.toNat sf0).2.2.2.2.2.1.getD (((x.1.1.getD (0:Int).toNat sf0).2.2.1.getD v0.toNat 0)).toNat 0)))+v2))/\(i64.wrap ((i64.wrap (v1*((x.1.1.getD x.2.2.1.2.1.toNat sf0).2.2.2.2.2.1.getD (((x.1.1.getD (0:Int).toNat sf0).2.2.1.getD v0.toNat 0)).toNat 0)))+v2))<((x.2.2.2.2.2.1.getD (((x.1.1.getD (0:Int).toNat sf0).2.2.1.getD v0.toNat 0)).toNat []).length:Int)then bif !((x.2.2.2.2.2.1.getD (((x.1.1.getD (0:Int).toNat sf0).2.2.1.getD v0.toNat 0)).toNat []).getD ((i64.wrap ((i64.wrap (v1*((x.1.1.getD x.2.2.1.2.1.toNat sf0).2.2.2.2.2.1.getD (((x.1.1.getD (0:Int).toNat sf0).2.2.1.getD v0.toNat 0)).toNat 0)))+v2))).toNat false)then AV (AV (some false))else some (LO.next (i64.wrap (v2+1)))else none else none else some (LO.brk 2 v2)) 0).bind (LO.fin fun i2 v2=>if i2=2 then some (LO.next (i64.wrap (v0+1)))else none)else none else none else none else none else some (LO.brk 0 v0)) 0).bind (LO.fin fun i0 v0=>if i0=0 then some true else none)else none)
theorem t96:tfn E96 f96 S96=G96:=by kernel_rfl
theorem c96:FT prog 96 S96 G96:=Av As (Ab a120 c120 Af) Ae Ag Au func96 (by kernel_rfl) t96
theorem a96:Ad prog 96=true:=by kernel_rfl
def S123:Sig:=⟨[(true,ySt),(false,yL),(false,yI),(false,yL)],[(false,1,yL)]⟩
def E123:AF:=⟨⟨TB,[],[],[],⟨40,[4],0⟩⟩,[(3,[9,10],[1])],[]⟩
def G123(x:(St×(LI×(Int×LI)))):Option LI:=((Am (fun(v0:(Int×LI))=>bif decide (v0.1<(x.2.2.2.length:Int))then if 0<=v0.1/\v0.1<(x.2.1.length:Int)then if 0<=(x.2.1.getD v0.1.toNat 0)/\(x.2.1.getD v0.1.toNat 0)<(x.1.1.length:Int)then if 0<=x.2.2.1/\x.2.2.1<((x.1.1.getD ((x.2.1.getD v0.1.toNat 0)).toNat sf0).2.2.2.2.2.2.length:Int)then if 0<=v0.1/\v0.1<(x.2.2.2.length:Int)then if 0<=(x.2.2.2.getD v0.1.toNat 0)/\(x.2.2.2.getD v0.1.toNat 0)<(((x.1.1.getD ((x.2.1.getD v0.1.toNat 0)).toNat sf0).2.2.2.2.2.2.getD x.2.2.1.toNat []).length:Int)then if(v0.2.length+((((x.1.1.getD ((x.2.1.getD v0.1.toNat 0)).toNat sf0).2.2.2.2.2.2.getD x.2.2.1.toNat []).getD ((x.2.2.2.getD v0.1.toNat 0)).toNat 0):: []).length)<=17592186044416 then some (LO.next ((i64.wrap (v0.1+1)),(v0.2++((((x.1.1.getD ((x.2.1.getD v0.1.toNat 0)).toNat sf0).2.2.2.2.2.2.getD x.2.2.1.toNat []).getD ((x.2.2.2.getD v0.1.toNat 0)).toNat 0):: []))))else none else none else none else none else none else none else some (LO.brk 0 (v0.1,v0.2))) (0,[])).bind (LO.fin fun i0 v0=>if i0=0 then some v0.2 else none))
theorem t123:tfn E123 f123 S123=G123:=by kernel_rfl
theorem c123:FT prog 123 S123 G123:=Av As Af Ae Ag Au func123 (by kernel_rfl) t123
theorem a123:Ad prog 123=true:=by kernel_rfl
def S97:Sig:=⟨[(true,ySt),(false,yL),(false,(.sl yN)),(false,yI),(false,yI),(false,yL)],[(false,0,.bool)]⟩
def E97(r:(PT S97.ps).T->Option (RT S97.rs).T):AF:=⟨⟨TB,[⟨97,S97,r⟩,⟨66,S66,G66⟩,⟨67,S67,G67⟩,⟨121,S121,G121⟩,⟨94,S94,G94⟩,⟨122,S122,G122⟩,⟨78,S78,G78⟩,⟨123,S123,G123⟩],[],[],⟨233,[6,96,99,118,121,200,203],0⟩⟩,[(19,[14,16,17],[]),(25,[13,14,16,18],[]),(33,[13,14,16,20,21],[])],[]⟩
def B97(r:(St×(LI×(LN×Nd)))->Option Bool)(x:(St×(LI×(LN×Nd)))):Option Bool:=(if(0:Int)<=(0:Int)/\0<(x.1.1.length:Int)then if 0<=x.2.2.2.1/\x.2.2.2.1<(x.2.2.1.length:Int)then bif decide ((x.2.2.1.getD x.2.2.2.1.toNat nd0).1=0)then some true else bif decide ((x.2.2.1.getD x.2.2.2.1.toNat nd0).1=1)then some false else bif decide ((x.2.2.1.getD x.2.2.2.1.toNat nd0).1=2)then if 0<=(x.2.2.1.getD x.2.2.2.1.toNat nd0).2.1/\(x.2.2.1.getD x.2.2.2.1.toNat nd0).2.1<(x.1.2.length:Int)then if 0<=x.2.2.2.2.1/\x.2.2.2.2.1<((x.1.2.getD ((x.2.2.1.getD x.2.2.2.1.toNat nd0).2.1).toNat rl0).2.length:Int)then(G66 (x.1.1,((x.1.2.getD ((x.2.2.1.getD x.2.2.2.1.toNat nd0).2.1).toNat rl0).1,x.2.2.2.2.1))).bind fun v0=>(G122 ((x.2.2.1.getD x.2.2.2.1.toNat nd0).2.2,x.2.2.2.2.2)).bind fun v1=>(G67 (v0,v1)).bind fun v2=>(G121 (((x.1.2.getD ((x.2.2.1.getD x.2.2.2.1.toNat nd0).2.1).toNat rl0).2.getD x.2.2.2.2.1.toNat []),v2)).bind fun v3=>some v3 else none else none else bif decide ((x.2.2.1.getD x.2.2.2.1.toNat nd0).1=3)then if(0:Int)<=(0:Int)/\0<((x.2.2.1.getD x.2.2.2.1.toNat nd0).2.2.length:Int)then if 0<=((x.2.2.1.getD x.2.2.2.1.toNat nd0).2.2.getD (0:Int).toNat 0)/\((x.2.2.1.getD x.2.2.2.1.toNat nd0).2.2.getD (0:Int).toNat 0)<(x.2.2.2.2.2.length:Int)then if(0:Int)<=(1:Int)/\1<((x.2.2.1.getD x.2.2.2.1.toNat nd0).2.2.length:Int)then if 0<=((x.2.2.1.getD x.2.2.2.1.toNat nd0).2.2.getD (1:Int).toNat 0)/\((x.2.2.1.getD x.2.2.2.1.toNat nd0).2.2.getD (1:Int).toNat 0)<(x.2.2.2.2.2.length:Int)then some (decide ((x.2.2.2.2.2.getD (((x.2.2.1.getD x.2.2.2.1.toNat nd0).2.2.getD (0:Int).toNat 0)).toNat 0)=(x.2.2.2.2.2.getD (((x.2.2.1.getD x.2.2.2.1.toNat nd0).2.2.getD (1:Int).toNat 0)).toNat 0)))else none else none else none else none else bif decide ((x.2.2.1.getD x.2.2.2.1.toNat nd0).1=4)then(r ((x.1.1,x.1.2),(x.2.1,(x.2.2.1,((i64.wrap (x.2.2.2.1+1)),(x.2.2.2.2.1,x.2.2.2.2.2)))))).bind fun v0=>Option.bind (bif v0 then(G94 (x.2.2.1,(i64.wrap (x.2.2.2.1+1)))).bind fun v1=>(r ((x.1.1,x.1.2),(x.2.1,(x.2.2.1,(v1,(x.2.2.2.2.1,x.2.2.2.2.2)))))).bind fun v2=>some v2 else some false) (fun(v1:Bool)=>some v1)else bif decide ((x.2.2.1.getD x.2.2.2.1.toNat nd0).1=5)then(r ((x.1.1,x.1.2),(x.2.1,(x.2.2.1,((i64.wrap (x.2.2.2.1+1)),(x.2.2.2.2.1,x.2.2.2.2.2)))))).bind fun v0=>Option.bind (bif v0 then some true else(G94 (x.2.2.1,(i64.wrap (x.2.2.2.1+1)))).bind fun v1=>(r ((x.1.1,x.1.2),(x.2.1,(x.2.2.1,(v1,(x.2.2.2.2.1,x.2.2.2.2.2)))))).bind fun v2=>some v2) (fun(v1:Bool)=>some v1)else(G78 x.2.1).bind fun v0=>if(v0.length+((x.2.2.1.getD x.2.2.2.1.toNat nd0).2.1:: []).length)<=17592186044416 then bif decide ((x.2.2.1.getD x.2.2.2.1.toNat nd0).1=7)then(Am (fun(v1:Int)=>if 0<=(x.2.2.1.getD x.2.2.2.1.toNat nd0).2.1/\(x.2.2.1.getD x.2.2.2.1.toNat nd0).2.1<(x.1.1.length:Int)then if 0<=x.2.2.2.2.1/\x.2.2.2.2.1<((x.1.1.getD ((x.2.2.1.getD x.2.2.2.1.toNat nd0).2.1).toNat sf0).2.2.2.2.2.1.length:Int)then bif decide (v1<((x.1.1.getD ((x.2.2.1.getD x.2.2.2.1.toNat nd0).2.1).toNat sf0).2.2.2.2.2.1.getD x.2.2.2.2.1.toNat 0))then none else some (LO.brk 1 v1)else none else none) 0).bind (LO.fin fun i1 v1=>if i1=1 then some false else none)else(Am (fun(v1:Int)=>bif decide (v1<((x.1.1.getD (0:Int).toNat sf0).2.1.length:Int))then if 0<=v1/\v1<((x.1.1.getD (0:Int).toNat sf0).2.1.length:Int)then bif !decide (((x.1.1.getD (0:Int).toNat sf0).2.1.getD v1.toNat 0)=x.2.2.2.2.1)then some (LO.next (i64.wrap (v1+1)))else if 0<=v1/\v1<((x.1.1.getD (0:Int).toNat sf0).2.2.1.length:Int)then(G123 ((x.1.1,x.1.2),(x.2.1,(v1,x.2.2.2.2.2)))).bind fun v2=>bif decide ((x.2.2.1.getD x.2.2.2.1.toNat nd0).1=6)then(r ((x.1.1,x.1.2),(x.2.1,(x.2.2.1,((i64.wrap (x.2.2.2.1+1)),(((x.1.1.getD (0:Int).toNat sf0).2.2.1.getD v1.toNat 0),v2)))))).bind fun v3=>Option.bind (bif v3 then(G94 (x.2.2.1,(i64.wrap (x.2.2.2.1+1)))).bind fun v4=>(r ((x.1.1,x.1.2),(x.2.1,(x.2.2.1,(v4,(((x.1.1.getD (0:Int).toNat sf0).2.2.1.getD v1.toNat 0),v2)))))).bind fun v5=>some (!v5)else some false) (fun(v4:Bool)=>bif v4 then AV (some false)else some (LO.next (i64.wrap (v1+1))))else(Am (fun(v3:Int)=>if 0<=(x.2.2.1.getD x.2.2.2.1.toNat nd0).2.1/\(x.2.2.1.getD x.2.2.2.1.toNat nd0).2.1<(x.1.1.length:Int)then if 0<=((x.1.1.getD (0:Int).toNat sf0).2.2.1.getD v1.toNat 0)/\((x.1.1.getD (0:Int).toNat sf0).2.2.1.getD v1.toNat 0)<((x.1.1.getD ((x.2.2.1.getD x.2.2.2.1.toNat nd0).2.1).toNat sf0).2.2.2.2.2.1.length:Int)then bif decide (v3<((x.1.1.getD ((x.2.2.1.getD x.2.2.2.1.toNat nd0).2.1).toNat sf0).2.2.2.2.2.1.getD (((x.1.1.getD (0:Int).toNat sf0).2.2.1.getD v1.toNat 0)).toNat 0))then none else some (LO.brk 5 v3)else none else none) 0).bind (LO.fin fun i3 v3=>if i3=5 then some (LO.next (i64.wrap (v1+1)))else none)else none else none else some (LO.brk 3 v1)) 0).bind (LO.fin fun i1 v1=>if i1=3 then some true else none)else none else none else none)
def R97:Nat->(St×(LI×(LN×Nd)))->Option Bool
 |0,_=>none
 |n+1,x=>B97 (R97 n) x
def G97(x:(St×(LI×(LN×Nd)))):Option Bool:=R97 4096 x
theorem t97:(fun r=>tfn (E97 r) f97 S97)=B97:=by kernel_rfl
theorem a97:Ad prog 97=true:=by kernel_rfl
theorem b97{r:(PT S97.ps).T->Option (RT S97.rs).T}(h:FT prog 97 S97 r):FT prog 97 S97 (B97 r):=Av (E:=E97 r) As (Ab a97 h (Ab a66 c66 (Ab a67 c67 (Ab a121 c121 (Ab a94 c94 (Ab a122 c122 (Ab a78 c78 (Ab a123 c123 Af)))))))) Ae Ag Au func97 (by kernel_rfl) (congrFun t97 r)
theorem r97: ∀n,FT prog 97 S97 (R97 n)
 |0=>fun _ _ h=>by cases h
 |n+1=>b97 (r97 n)
theorem c97:FT prog 97 S97 G97:=r97 4096
def AaC(x:(St×(LI×(LN×Int))))(f1 f2:LLB):Option LLB:=((Am (fun(v5:(Int×(Int×(LI×(LI×(LI×(LL×(Int×(Int×(LI×(LLB×(LLB×LLB))))))))))))=>bif decide (v5.1<v5.2.1)then(G66 (x.1.1,(x.2.1,v5.1))).bind fun v6=>(G95 v6).bind fun v7=>if(0<=v7)/\((v7<=v7)/\(((1*v7)<=281474976710656)/\(v7<=9223372036854775807)))then(Am (fun(v8:(Int×(Int×(LI×(LI×(LI×(LL×(Int×(Int×(LI×(LLB×(LLB×(LLB×(LI×LB))))))))))))))=>bif decide (v8.1<(v8.2.2.2.2.2.2.2.2.2.2.2.2.2.length:Int))then bif decide (v8.2.2.2.2.2.2.1=4)then if 0<=v5.1/\v5.1<(v8.2.2.2.2.2.2.2.2.2.2.1.length:Int)then if 0<=v8.1/\v8.1<((v8.2.2.2.2.2.2.2.2.2.2.1.getD v5.1.toNat []).length:Int)then Option.bind (bif(v8.2.2.2.2.2.2.2.2.2.2.1.getD v5.1.toNat []).getD v8.1.toNat false then if 0<=v5.1/\v5.1<(v8.2.2.2.2.2.2.2.2.2.2.2.1.length:Int)then if 0<=v8.1/\v8.1<((v8.2.2.2.2.2.2.2.2.2.2.2.1.getD v5.1.toNat []).length:Int)then some ((v8.2.2.2.2.2.2.2.2.2.2.2.1.getD v5.1.toNat []).getD v8.1.toNat false)else none else none else some false) (fun(v9:Bool)=>if 0<=v8.1/\v8.1<(v8.2.2.2.2.2.2.2.2.2.2.2.2.2.length:Int)then some (LO.next ((i64.wrap (v8.1+1)),(v8.2.1,(v8.2.2.1,(v8.2.2.2.1,(v8.2.2.2.2.1,(v8.2.2.2.2.2.1,(v8.2.2.2.2.2.2.1,(v8.2.2.2.2.2.2.2.1,(v8.2.2.2.2.2.2.2.2.1,(v8.2.2.2.2.2.2.2.2.2.1,(v8.2.2.2.2.2.2.2.2.2.2.1,(v8.2.2.2.2.2.2.2.2.2.2.2.1,(v8.2.2.2.2.2.2.2.2.2.2.2.2.1,(v8.2.2.2.2.2.2.2.2.2.2.2.2.2.set v8.1.toNat v9)))))))))))))))else none)else none else none else bif decide (v8.2.2.2.2.2.2.1=5)then if 0<=v5.1/\v5.1<(v8.2.2.2.2.2.2.2.2.2.2.1.length:Int)then if 0<=v8.1/\v8.1<((v8.2.2.2.2.2.2.2.2.2.2.1.getD v5.1.toNat []).length:Int)then Option.bind (bif(v8.2.2.2.2.2.2.2.2.2.2.1.getD v5.1.toNat []).getD v8.1.toNat false then some true else if 0<=v5.1/\v5.1<(v8.2.2.2.2.2.2.2.2.2.2.2.1.length:Int)then if 0<=v8.1/\v8.1<((v8.2.2.2.2.2.2.2.2.2.2.2.1.getD v5.1.toNat []).length:Int)then some ((v8.2.2.2.2.2.2.2.2.2.2.2.1.getD v5.1.toNat []).getD v8.1.toNat false)else none else none) (fun(v9:Bool)=>if 0<=v8.1/\v8.1<(v8.2.2.2.2.2.2.2.2.2.2.2.2.2.length:Int)then some (LO.next ((i64.wrap (v8.1+1)),(v8.2.1,(v8.2.2.1,(v8.2.2.2.1,(v8.2.2.2.2.1,(v8.2.2.2.2.2.1,(v8.2.2.2.2.2.2.1,(v8.2.2.2.2.2.2.2.1,(v8.2.2.2.2.2.2.2.2.1,(v8.2.2.2.2.2.2.2.2.2.1,(v8.2.2.2.2.2.2.2.2.2.2.1,(v8.2.2.2.2.2.2.2.2.2.2.2.1,(v8.2.2.2.2.2.2.2.2.2.2.2.2.1,(v8.2.2.2.2.2.2.2.2.2.2.2.2.2.set v8.1.toNat v9)))))))))))))))else none)else none else none else bif decide (v8.2.2.2.2.2.2.1=7)then if 0<=v8.2.2.2.2.2.2.2.1/\v8.2.2.2.2.2.2.2.1<(x.1.1.length:Int)then if 0<=v5.1/\v5.1<((x.1.1.getD v8.2.2.2.2.2.2.2.1.toNat sf0).2.2.2.2.2.1.length:Int)then(Am (fun(v9:(Int×(Int×(LI×(LI×(LI×(LL×(Int×(Int×(LI×(LLB×(LLB×(LLB×(LI×LB))))))))))))))=>bif decide (v9.1<((x.1.1.getD v8.2.2.2.2.2.2.2.1.toNat sf0).2.2.2.2.2.1.getD v5.1.toNat 0))then if 0<=v8.1/\v8.1<(v9.2.2.2.2.2.2.2.2.2.2.2.2.2.length:Int)then Option.bind (bif v9.2.2.2.2.2.2.2.2.2.2.2.2.2.getD v8.1.toNat false then some true else if 0<=v5.1/\v5.1<(v9.2.2.2.2.2.2.2.2.2.2.1.length:Int)then if 0<=(i64.wrap ((i64.wrap (v8.1*((x.1.1.getD v8.2.2.2.2.2.2.2.1.toNat sf0).2.2.2.2.2.1.getD v5.1.toNat 0)))+v9.1))/\(i64.wrap ((i64.wrap (v8.1*((x.1.1.getD v8.2.2.2.2.2.2.2.1.toNat sf0).2.2.2.2.2.1.getD v5.1.toNat 0)))+v9.1))<((v9.2.2.2.2.2.2.2.2.2.2.1.getD v5.1.toNat []).length:Int)then some ((v9.2.2.2.2.2.2.2.2.2.2.1.getD v5.1.toNat []).getD ((i64.wrap ((i64.wrap (v8.1*((x.1.1.getD v8.2.2.2.2.2.2.2.1.toNat sf0).2.2.2.2.2.1.getD v5.1.toNat 0)))+v9.1))).toNat false)else none else none) (fun(v10:Bool)=>if 0<=v8.1/\v8.1<(v9.2.2.2.2.2.2.2.2.2.2.2.2.2.length:Int)then some (LO.next ((i64.wrap (v9.1+1)),(v9.2.1,(v9.2.2.1,(v9.2.2.2.1,(v9.2.2.2.2.1,(v9.2.2.2.2.2.1,(v9.2.2.2.2.2.2.1,(v9.2.2.2.2.2.2.2.1,(v9.2.2.2.2.2.2.2.2.1,(v9.2.2.2.2.2.2.2.2.2.1,(v9.2.2.2.2.2.2.2.2.2.2.1,(v9.2.2.2.2.2.2.2.2.2.2.2.1,(v9.2.2.2.2.2.2.2.2.2.2.2.2.1,(v9.2.2.2.2.2.2.2.2.2.2.2.2.2.set v8.1.toNat v10)))))))))))))))else none)else none else some (LO.brk 6 (v9.1,(v9.2.1,(v9.2.2.1,(v9.2.2.2.1,(v9.2.2.2.2.1,(v9.2.2.2.2.2.1,(v9.2.2.2.2.2.2.1,(v9.2.2.2.2.2.2.2.1,(v9.2.2.2.2.2.2.2.2.1,(v9.2.2.2.2.2.2.2.2.2.1,(v9.2.2.2.2.2.2.2.2.2.2.1,(v9.2.2.2.2.2.2.2.2.2.2.2.1,(v9.2.2.2.2.2.2.2.2.2.2.2.2.1,v9.2.2.2.2.2.2.2.2.2.2.2.2.2))))))))))))))) (0,(v8.2.1,(v8.2.2.1,(v8.2.2.2.1,(v8.2.2.2.2.1,(v8.2.2.2.2.2.1,(v8.2.2.2.2.2.2.1,(v8.2.2.2.2.2.2.2.1,(v8.2.2.2.2.2.2.2.2.1,(v8.2.2.2.2.2.2.2.2.2.1,(v8.2.2.2.2.2.2.2.2.2.2.1,(v8.2.2.2.2.2.2.2.2.2.2.2.1,(v8.2.2.2.2.2.2.2.2.2.2.2.2.1,v8.2.2.2.2.2.2.2.2.2.2.2.2.2)))))))))))))).bind (LO.fin fun i9 v9=>if i9=6 then some (LO.next ((i64.wrap (v8.1+1)),(v9.2.1,(v9.2.2.1,(v9.2.2.2.1,(v9.2.2.2.2.1,(v9.2.2.2.2.2.1,(v9.2.2.2.2.2.2.1,(v9.2.2.2.2.2.2.2.1,(v9.2.2.2.2.2.2.2.2.1,(v9.2.2.2.2.2.2.2.2.2.1,(v9.2.2.2.2.2.2.2.2.2.2.1,(v9.2.2.2.2.2.2.2.2.2.2.2.1,(v9.2.2.2.2.2.2.2.2.2.2.2.2.1,v9.2.2.2.2.2.2.2.2.2.2.2.2.2))))))))))))))else none)else none else none else bif decide (v8.2.2.2.2.2.2.1=6)then bif decide (v8.2.2.2.2.2.2.1=6)then(G96 ((x.1.1,x.1.2),(x.2.1,((v8.2.2.2.2.2.2.1,(v8.2.2.2.2.2.2.2.1,v8.2.2.2.2.2.2.2.2.1)),(v5.1,(v8.1,(v8.2.2.2.2.2.2.2.2.2.2.1,v8.2.2.2.2.2.2.2.2.2.2.2.1))))))).bind fun v9=>if 0<=v8.1/\v8.1<(v8.2.2.2.2.2.2.2.2.2.2.2.2.2.length:Int)then some (LO.next ((i64.wrap (v8.1+1)),(v8.2.1,(v8.2.2.1,(v8.2.2.2.1,(v8.2.2.2.2.1,(v8.2.2.2.2.2.1,(v8.2.2.2.2.2.2.1,(v8.2.2.2.2.2.2.2.1,(v8.2.2.2.2.2.2.2.2.1,(v8.2.2.2.2.2.2.2.2.2.1,(v8.2.2.2.2.2.2.2.2.2.2.1,(v8.2.2.2.2.2.2.2.2.2.2.2.1,(v8.2.2.2.2.2.2.2.2.2.2.2.2.1,(v8.2.2.2.2.2.2.2.2.2.2.2.2.2.set v8.1.toNat v9)))))))))))))))else none else(G98 (v8.2.2.2.2.2.2.2.2.2.2.2.2.1,v8.1)).bind fun v9=>(G97 ((x.1.1,x.1.2),(x.2.1,(x.2.2.1,(x.2.2.2,(v5.1,v9)))))).bind fun v10=>if 0<=v8.1/\v8.1<(v8.2.2.2.2.2.2.2.2.2.2.2.2.2.length:Int)then some (LO.next ((i64.wrap (v8.1+1)),(v8.2.1,(v8.2.2.1,(v8.2.2.2.1,(v8.2.2.2.2.1,(v8.2.2.2.2.2.1,(v8.2.2.2.2.2.2.1,(v8.2.2.2.2.2.2.2.1,(v8.2.2.2.2.2.2.2.2.1,(v8.2.2.2.2.2.2.2.2.2.1,(v8.2.2.2.2.2.2.2.2.2.2.1,(v8.2.2.2.2.2.2.2.2.2.2.2.1,(v8.2.2.2.2.2.2.2.2.2.2.2.2.1,(v8.2.2.2.2.2.2.2.2.2.2.2.2.2.set v8.1.toNat v10)))))))))))))))else none else bif decide (v8.2.2.2.2.2.2.1=8)then(G96 ((x.1.1,x.1.2),(x.2.1,((v8.2.2.2.2.2.2.1,(v8.2.2.2.2.2.2.2.1,v8.2.2.2.2.2.2.2.2.1)),(v5.1,(v8.1,(v8.2.2.2.2.2.2.2.2.2.2.1,v8.2.2.2.2.2.2.2.2.2.2.2.1))))))).bind fun v9=>if 0<=v8.1/\v8.1<(v8.2.2.2.2.2.2.2.2.2.2.2.2.2.length:Int)then some (LO.next ((i64.wrap (v8.1+1)),(v8.2.1,(v8.2.2.1,(v8.2.2.2.1,(v8.2.2.2.2.1,(v8.2.2.2.2.2.1,(v8.2.2.2.2.2.2.1,(v8.2.2.2.2.2.2.2.1,(v8.2.2.2.2.2.2.2.2.1,(v8.2.2.2.2.2.2.2.2.2.1,(v8.2.2.2.2.2.2.2.2.2.2.1,(v8.2.2.2.2.2.2.2.2.2.2.2.1,(v8.2.2.2.2.2.2.2.2.2.2.2.2.1,(v8.2.2.2.2.2.2.2.2.2.2.2.2.2.set v8.1.toNat v9)))))))))))))))else none else(G98 (v8.2.2.2.2.2.2.2.2.2.2.2.2.1,v8.1)).bind fun v9=>(G97 ((x.1.1,x.1.2),(x.2.1,(x.2.2.1,(x.2.2.2,(v5.1,v9)))))).bind fun v10=>if 0<=v8.1/\v8.1<(v8.2.2.2.2.2.2.2.2.2.2.2.2.2.length:Int)then some (LO.next ((i64.wrap (v8.1+1)),(v8.2.1,(v8.2.2.1,(v8.2.2.2.1,(v8.2.2.2.2.1,(v8.2.2.2.2.2.1,(v8.2.2.2.2.2.2.1,(v8.2.2.2.2.2.2.2.1,(v8.2.2.2.2.2.2.2.2.1,(v8.2.2.2.2.2.2.2.2.2.1,(v8.2.2.2.2.2.2.2.2.2.2.1,(v8.2.2.2.2.2.2.2.2.2.2.2.1,(v8.2.2.2.2.2.2.2.2.2.2.2.2.1,(v8.2.2.2.2.2.2.2.2.2.2.2.2.2.set v8.1.toNat v10)))))))))))))))else none else some (LO.brk 3 (v8.1,(v8.2.1,(v8.2.2.1,(v8.2.2.2.1,(v8.2.2.2.2.1,(v8.2.2.2.2.2.1,(v8.2.2.2.2.2.2.1,(v8.2.2.2.2.2.2.2.1,(v8.2.2.2.2.2.2.2.2.1,(v8.2.2.2.2.2.2.2.2.2.1,(v8.2.2.2.2.2.2.2.2.2.2.1,(v8.2.2.2.2.2.2.2.2.2.2.2.1,(v8.2.2.2.2.2.2.2.2.2.2.2.2.1,v8.2.2.2.2.2.2.2.2.2.2.2.2.2))))))))))))))) (0,(v5.2.1,(v5.2.2.1,(v5.2.2.2.1,(v5.2.2.2.2.1,(v5.2.2.2.2.2.1,(v5.2.2.2.2.2.2.1,(v5.2.2.2.2.2.2.2.1,(v5.2.2.2.2.2.2.2.2.1,(v5.2.2.2.2.2.2.2.2.2.1,(v5.2.2.2.2.2.2.2.2.2.2.1,(v5.2.2.2.2.2.2.2.2.2.2.2,(v6,(List.replicate v7.toNat false))))))))))))))).bind (LO.fin fun i8 v8=>if i8=3 then if True then if(v8.2.2.2.2.2.2.2.2.2.1.length+(v8.2.2.2.2.2.2.2.2.2.2.2.2.2:: []).length)<=5864062014805 then some (LO.next ((i64.wrap (v5.1+1)),(v8.2.1,(v8.2.2.1,(v8.2.2.2.1,(v8.2.2.2.2.1,(v8.2.2.2.2.2.1,(v8.2.2.2.2.2.2.1,(v8.2.2.2.2.2.2.2.1,(v8.2.2.2.2.2.2.2.2.1,((v8.2.2.2.2.2.2.2.2.2.1++(v8.2.2.2.2.2.2.2.2.2.2.2.2.2:: [])),(v8.2.2.2.2.2.2.2.2.2.2.1,v8.2.2.2.2.2.2.2.2.2.2.2.1))))))))))))else none else none else none)else none else some (LO.brk 1 (v5.1,(v5.2.1,(v5.2.2.1,(v5.2.2.2.1,(v5.2.2.2.2.1,(v5.2.2.2.2.2.1,(v5.2.2.2.2.2.2.1,(v5.2.2.2.2.2.2.2.1,(v5.2.2.2.2.2.2.2.2.1,(v5.2.2.2.2.2.2.2.2.2.1,(v5.2.2.2.2.2.2.2.2.2.2.1,v5.2.2.2.2.2.2.2.2.2.2.2))))))))))))) (0,((x.1.1.getD (0:Int).toNat sf0).1,((x.1.1.getD (0:Int).toNat sf0).2.1,((x.1.1.getD (0:Int).toNat sf0).2.2.1,((x.1.1.getD (0:Int).toNat sf0).2.2.2.1,((x.1.1.getD (0:Int).toNat sf0).2.2.2.2.1,((x.2.2.1.getD x.2.2.2.toNat nd0).1,((x.2.2.1.getD x.2.2.2.toNat nd0).2.1,((x.2.2.1.getD x.2.2.2.toNat nd0).2.2,([],(f1,f2)))))))))))).bind (LO.fin fun i5 v5=>if i5=1 then some v5.2.2.2.2.2.2.2.2.2.1 else none))
def S53:Sig:=⟨[(true,ySt),(false,yL),(false,(.sl yN)),(false,yI)],[(false,2,(.sl (.sl .bool)))]⟩
def E53(r:(PT S53.ps).T->Option (RT S53.rs).T):AF:=⟨⟨TB,[⟨53,S53,r⟩,⟨66,S66,G66⟩,⟨95,S95,G95⟩,⟨98,S98,G98⟩,⟨93,S93,G93⟩,⟨94,S94,G94⟩,⟨78,S78,G78⟩,⟨96,S96,G96⟩,⟨97,S97,G97⟩],[],[],⟨198,[4],0⟩⟩,[(11,[9,10,11,12,13,15],[1,2,3,9,10,1009001,1010002,1011003,1012009,1013010]),(11,[9,10,11,12,13,15],[1,2,3,9,5,1009001,1010002,1011003,1012009,1013005]),(11,[9,10,11,12,13,15],[1,2,3,4,5,1009001,1010002,1011003,1012004,1013005]),(11,[1000011,9,10,11,12,13,15],[]),(16,[9,10,11,12,13,16,17,18],[1,2,3,9,10,11,12,1009001,1010002,1011003,1012009,1013010,2000015,1016011,1017012]),(16,[9,10,11,12,13,16,17,18],[1,2,3,9,5,10,11,1009001,1010002,1011003,1012009,1013005,2000015,1016010,1017011]),(16,[9,10,11,12,13,16,17,18],[1,2,3,4,5,9,10,1009001,1010002,1011003,1012004,1013005,2000015,1016009,1017010]),(16,[1000016,9,10,11,12,13,15,16,17,18],[]),(27,[9,10,11,12,13,16,17,20],[1,2,3,9,10,11,12,1009001,1010002,1011003,1012009,1013010,2000015,1016011,1017012,2000018,2000019]),(27,[9,10,11,12,13,16,17,20],[1,2,3,9,5,10,11,1009001,1010002,1011003,1012009,1013005,2000015,1016010,1017011,2000018,2000019]),(27,[9,10,11,12,13,16,17,20],[1,2,3,4,5,9,10,1009001,1010002,1011003,1012004,1013005,2000015,1016009,1017010,2000018,2000019]),(27,[1000027,9,10,11,12,13,15,16,17,18,19,20],[])],[]⟩
def B53(r:(St×(LI×(LN×Int)))->Option LLB)(x:(St×(LI×(LN×Int)))):Option LLB:=(if(0:Int)<=(0:Int)/\0<(x.1.1.length:Int)then if 0<=x.2.2.2/\x.2.2.2<(x.2.2.1.length:Int)then(G78 x.2.1).bind fun v0=>if(v0.length+((x.2.2.1.getD x.2.2.2.toNat nd0).2.1:: []).length)<=17592186044416 then(G93 (x.2.2.1.getD x.2.2.2.toNat nd0).1).bind fun v1=>bif decide (v1=2)then(r ((x.1.1,x.1.2),(x.2.1,(x.2.2.1,(i64.wrap (x.2.2.2+1)))))).bind fun v2=>(G94 (x.2.2.1,(i64.wrap (x.2.2.2+1)))).bind fun v3=>(r ((x.1.1,x.1.2),(x.2.1,(x.2.2.1,v3)))).bind fun v4=>AaC x v2 v4 else bif decide (v1=1)then(r ((x.1.1,x.1.2),((v0++((x.2.2.1.getD x.2.2.2.toNat nd0).2.1:: [])),(x.2.2.1,(i64.wrap (x.2.2.2+1)))))).bind fun v2=>AaC x v2 []else AaC x [] []else none else none else none)
def R53:Nat->(St×(LI×(LN×Int)))->Option LLB
 |0,_=>none
 |n+1,x=>B53 (R53 n) x
def G53(x:(St×(LI×(LN×Int)))):Option LLB:=R53 4096 x
theorem t53:(fun r=>tfn (E53 r) f53 S53)=B53:=by kernel_rfl
theorem a53:Ad prog 53=true:=by kernel_rfl
theorem b53{r:(PT S53.ps).T->Option (RT S53.rs).T}(h:FT prog 53 S53 r):FT prog 53 S53 (B53 r):=Av (E:=E53 r) As (Ab a53 h (Ab a66 c66 (Ab a95 c95 (Ab a98 c98 (Ab a93 c93 (Ab a94 c94 (Ab a78 c78 (Ab a96 c96 (Ab a97 c97 Af))))))))) Ae Ag Au func53 (by kernel_rfl) (congrFun t53 r)
theorem r53: ∀n,FT prog 53 S53 (R53 n)
 |0=>fun _ _ h=>by cases h
 |n+1=>b53 (r53 n)
theorem c53:FT prog 53 S53 G53:=r53 4096
def S69:Sig:=⟨[(false,yI),(false,yI),(false,yI)],[(false,0,.bool)]⟩
def E69:AF:=⟨⟨TB,[],[],[],⟨15,[],0⟩⟩,[],[]⟩
def G69(x:(Int×(Int×Int))):Option Bool:=(Option.bind (bif decide (x.2.1<=x.1)then some (decide (x.1<=x.2.2))else some false) (fun(v0:Bool)=>some v0))
theorem t69:tfn E69 f69 S69=G69:=by kernel_rfl
theorem c69:FT prog 69 S69 G69:=Av As Af Ae Ag Au func69 (by kernel_rfl) t69
theorem a69:Ad prog 69=true:=by kernel_rfl
def S157:Sig:=⟨[(false,(.ptr yC))],[(false,0,yI)]⟩
def E157:AF:=⟨⟨TB,[],[],[],⟨8,[],0⟩⟩,[],[]⟩
def G157(x:Ca):Option Int:=(some (x.2.1.length:Int))
theorem t157:tfn E157 f157 S157=G157:=by kernel_rfl
theorem c157:FT prog 157 S157 G157:=Av As Af Ae Ag Au func157 (by kernel_rfl) t157
theorem a157:Ad prog 157=true:=by kernel_rfl
def S139:Sig:=⟨[(false,yL),(false,yI)],[(false,0,.bool)]⟩
def E139:AF:=⟨⟨TB,[⟨69,S69,G69⟩],[],[],⟨19,[],0⟩⟩,[(2,[9],[])],[]⟩
def G139(x:(LI×Int)):Option Bool:=((Am (fun(v0:Int)=>bif decide (v0<(x.1.length:Int))then if 0<=v0/\v0<(x.1.length:Int)then(G69 ((x.1.getD v0.toNat 0),(0,(i64.wrap (x.2-1))))).bind fun v1=>bif !v1 then AV (some false)else some (LO.next (i64.wrap (v0+1)))else none else some (LO.brk 0 v0)) 0).bind (LO.fin fun i0 v0=>if i0=0 then some true else none))
theorem t139:tfn E139 f139 S139=G139:=by kernel_rfl
theorem c139:FT prog 139 S139 G139:=Av As (Ab a69 c69 Af) Ae Ag Au func139 (by kernel_rfl) t139
theorem a139:Ad prog 139=true:=by kernel_rfl
def S166:Sig:=⟨[(false,(.ptr yC)),(false,yI)],[(true,0,(.pair yI yI))]⟩
def E166:AF:=⟨⟨TB,[],[],[],⟨20,[],0⟩⟩,[],[]⟩
def G166(x:(Ca×Int)):Option (Int×Int):=(if 0<=x.2/\x.2<(x.1.2.1.length:Int)then if 0<=x.2/\x.2<(x.1.2.2.1.length:Int)then some ((x.1.2.1.getD x.2.toNat 0),(x.1.2.2.1.getD x.2.toNat 0))else none else none)
theorem t166:tfn E166 f166 S166=G166:=by kernel_rfl
theorem c166:FT prog 166 S166 G166:=Av As Af Ae Ag Au func166 (by kernel_rfl) t166
theorem a166:Ad prog 166=true:=by kernel_rfl
def S163:Sig:=⟨[(false,(.ptr yC))],[(false,0,.bool)]⟩
def E163:AF:=⟨⟨TB,[⟨69,S69,G69⟩,⟨157,S157,G157⟩,⟨139,S139,G139⟩,⟨166,S166,G166⟩],[],[],⟨167,[40,52,71,147],0⟩⟩,[(7,[88],[]),(13,[106],[]),(18,[117],[])],[]⟩
def G163(x:Ca):Option Bool:=((G157 x).bind fun v0=>(G69 (x.1,(0,8))).bind fun v1=>Option.bind (bif !v1 then some true else some (decide (40<v0))) (fun(v2:Bool)=>Option.bind (bif v2 then some true else some (!decide ((x.2.2.1.length:Int)=v0))) (fun(v3:Bool)=>Option.bind (bif v3 then some true else(G139 (x.2.1,x.1)).bind fun v4=>some (!v4)) (fun(v4:Bool)=>Option.bind (bif v4 then some true else(G139 (x.2.2.1,x.1)).bind fun v5=>some (!v5)) (fun(v5:Bool)=>bif v5 then some false else Option.bind (bif !decide ((x.2.2.2.1.length:Int)=x.1)then some true else(G139 (x.2.2.2.1,v0)).bind fun v6=>some (!v6)) (fun(v6:Bool)=>Option.bind (bif v6 then some true else some (!decide ((x.2.2.2.2.length:Int)=v0))) (fun(v7:Bool)=>bif v7 then some false else(Am (fun(v8:Int)=>bif decide (v8<(x.2.2.2.1.length:Int))then if 0<=v8/\v8<(x.2.2.2.1.length:Int)then(G166 (x,(x.2.2.2.1.getD v8.toNat 0))).bind fun v9=>bif !((decide (v9.1=v8))&&((decide (v9.2=v8))&&true))then AV (some false)else some (LO.next (i64.wrap (v8+1)))else none else some (LO.brk 0 v8)) 0).bind (LO.fin fun i8 v8=>if i8=0 then(Am (fun(v9:Int)=>bif decide (v9<(x.2.2.2.2.length:Int))then if 0<=v9/\v9<(x.2.2.2.2.length:Int)then bif !decide (((x.2.2.2.2.getD v9.toNat []).length:Int)=v0)then AV (some false)else(Am (fun(v10:Int)=>bif decide (v10<((x.2.2.2.2.getD v9.toNat []).length:Int))then if 0<=v10/\v10<((x.2.2.2.2.getD v9.toNat []).length:Int)then if 0<=v9/\v9<(x.2.2.1.length:Int)then if 0<=v10/\v10<(x.2.1.length:Int)then bif !decide ((x.2.2.1.getD v9.toNat 0)=(x.2.1.getD v10.toNat 0))then bif !decide (((x.2.2.2.2.getD v9.toNat []).getD v10.toNat 0)=(-1))then AV (AV (some false))else some (LO.next (i64.wrap (v10+1)))else(G69 (((x.2.2.2.2.getD v9.toNat []).getD v10.toNat 0),(0,(i64.wrap (v0-1))))).bind fun v11=>Option.bind (bif !v11 then some true else(G166 (x,((x.2.2.2.2.getD v9.toNat []).getD v10.toNat 0))).bind fun v12=>if 0<=v9/\v9<(x.2.1.length:Int)then if 0<=v10/\v10<(x.2.2.1.length:Int)then some (!((decide (v12.1=(x.2.1.getD v9.toNat 0)))&&((decide (v12.2=(x.2.2.1.getD v10.toNat 0)))&&true)))else none else none) (fun(v12:Bool)=>bif v12 then AV (AV (some false))else some (LO.next (i64.wrap (v10+1))))else none else none else none else some (LO.brk 4 v10)) 0).bind (LO.fin fun i10 v10=>if i10=4 then some (LO.next (i64.wrap (v9+1)))else none)else none else some (LO.brk 2 v9)) 0).bind (LO.fin fun i9 v9=>if i9=2 then some true else none)else none))))))))
theorem t163:tfn E163 f163 S163=G163:=by kernel_rfl
theorem c163:FT prog 163 S163 G163:=Av As (Ab a69 c69 (Ab a157 c157 (Ab a139 c139 (Ab a166 c166 Af)))) Ae Ag Au func163 (by kernel_rfl) t163
theorem a163:Ad prog 163=true:=by kernel_rfl
def S167:Sig:=⟨[(false,(.ptr yC)),(false,yI),(false,yI)],[(false,0,yI)]⟩
def E167:AF:=⟨⟨TB,[],[],[],⟨17,[],0⟩⟩,[],[]⟩
def G167(x:(Ca×(Int×Int))):Option Int:=(if 0<=x.2.1/\x.2.1<(x.1.2.2.2.2.length:Int)then if 0<=x.2.2/\x.2.2<((x.1.2.2.2.2.getD x.2.1.toNat []).length:Int)then some ((x.1.2.2.2.2.getD x.2.1.toNat []).getD x.2.2.toNat 0)else none else none)
theorem t167:tfn E167 f167 S167=G167:=by kernel_rfl
theorem c167:FT prog 167 S167 G167:=Av As Af Ae Ag Au func167 (by kernel_rfl) t167
theorem a167:Ad prog 167=true:=by kernel_rfl
def S164:Sig:=⟨[(false,(.ptr yC))],[(false,0,yI),(false,0,yI),(false,0,yI),(false,0,yI)]⟩
def E164:AF:=⟨⟨TB,[⟨157,S157,G157⟩,⟨167,S167,G167⟩],[],[],⟨102,[52,87,89,95,96],0⟩⟩,[(3,[7],[]),(8,[8],[]),(11,[9],[]),(15,[10],[])],[]⟩
def G164(x:Ca):Option (Int×(Int×(Int×Int))):=((G157 x).bind fun v0=>(Am (fun(v1:Int)=>bif decide (v1<v0)then if 0<=v1/\v1<(x.2.1.length:Int)then if 0<=(x.2.1.getD v1.toNat 0)/\(x.2.1.getD v1.toNat 0)<(x.2.2.2.1.length:Int)then(G167 (x,((x.2.2.2.1.getD ((x.2.1.getD v1.toNat 0)).toNat 0),v1))).bind fun v2=>Option.bind (bif !decide (v2=v1)then some true else if 0<=v1/\v1<(x.2.2.1.length:Int)then if 0<=(x.2.2.1.getD v1.toNat 0)/\(x.2.2.1.getD v1.toNat 0)<(x.2.2.2.1.length:Int)then(G167 (x,(v1,(x.2.2.2.1.getD ((x.2.2.1.getD v1.toNat 0)).toNat 0)))).bind fun v3=>some (!decide (v3=v1))else none else none) (fun(v3:Bool)=>bif v3 then AV (some (1,(v1,(0,0))))else some (LO.next (i64.wrap (v1+1))))else none else none else some (LO.brk 0 v1)) 0).bind (LO.fin fun i1 v1=>if i1=0 then(Am (fun(v2:Int)=>bif decide (v2<v0)then(Am (fun(v3:Int)=>bif decide (v3<v0)then(G167 (x,(v2,v3))).bind fun v4=>bif decide (v4<0)then some (LO.next (i64.wrap (v3+1)))else(Am (fun(v5:Int)=>bif decide (v5<v0)then(G167 (x,(v3,v5))).bind fun v6=>Option.bind (bif decide (0<=v6)then(G167 (x,(v2,v3))).bind fun v7=>(G167 (x,(v7,v5))).bind fun v8=>(G167 (x,(v3,v5))).bind fun v9=>(G167 (x,(v2,v9))).bind fun v10=>some (!decide (v8=v10))else some false) (fun(v7:Bool)=>bif v7 then AV (AV (AV (some (2,(v2,(v3,v5))))))else some (LO.next (i64.wrap (v5+1))))else some (LO.brk 6 v5)) 0).bind (LO.fin fun i5 v5=>if i5=6 then some (LO.next (i64.wrap (v3+1)))else none)else some (LO.brk 4 v3)) 0).bind (LO.fin fun i3 v3=>if i3=4 then some (LO.next (i64.wrap (v2+1)))else none)else some (LO.brk 2 v2)) 0).bind (LO.fin fun i2 v2=>if i2=2 then some (0,(0,(0,0)))else none)else none))
theorem t164:tfn E164 f164 S164=G164:=by kernel_rfl
theorem c164:FT prog 164 S164 G164:=Av As (Ab a157 c157 (Ab a167 c167 Af)) Ae Ag Au func164 (by kernel_rfl) t164
theorem a164:Ad prog 164=true:=by kernel_rfl
def S156:Sig:=⟨[(false,(.ptr yC))],[(false,0,.bool)]⟩
def E156:AF:=⟨⟨TB,[⟨163,S163,G163⟩,⟨164,S164,G164⟩],[],[],⟨19,[],0⟩⟩,[],[]⟩
def G156(x:Ca):Option Bool:=((G163 x).bind fun v0=>bif !v0 then some false else(G164 x).bind fun v1=>some (decide (v1.1=0)))
theorem t156:tfn E156 f156 S156=G156:=by kernel_rfl
theorem c156:FT prog 156 S156 G156:=Av As (Ab a163 c163 (Ab a164 c164 Af)) Ae Ag Au func156 (by kernel_rfl) t156
theorem a156:Ad prog 156=true:=by kernel_rfl
def S158:Sig:=⟨[(false,yL),(false,yI),(false,yI)],[(false,0,.bool)]⟩
def E158:AF:=⟨⟨TB,[⟨139,S139,G139⟩],[],[],⟨16,[14],0⟩⟩,[],[]⟩
def G158(x:(LI×(Int×Int))):Option Bool:=(Option.bind (bif decide ((x.1.length:Int)=x.2.1)then(G139 (x.1,x.2.2)).bind fun v0=>some v0 else some false) (fun(v0:Bool)=>some v0))
theorem t158:tfn E158 f158 S158=G158:=by kernel_rfl
theorem c158:FT prog 158 S158 G158:=Av As (Ab a139 c139 Af) Ae Ag Au func158 (by kernel_rfl) t158
theorem a158:Ad prog 158=true:=by kernel_rfl
def S149:Sig:=⟨[(false,(.ptr ySF))],[(false,0,.bool)]⟩
def E149:AF:=⟨⟨TB,[⟨157,S157,G157⟩,⟨139,S139,G139⟩,⟨156,S156,G156⟩,⟨158,S158,G158⟩],[],[],⟨82,[29,39],0⟩⟩,[(5,[47],[])],[]⟩
def G149(x:SF):Option Bool:=((G156 (x.1,(x.2.1,(x.2.2.1,(x.2.2.2.1,x.2.2.2.2.1))))).bind fun v0=>Option.bind (bif !v0 then some true else some (!decide ((x.2.2.2.2.2.1.length:Int)=x.1))) (fun(v1:Bool)=>Option.bind (bif v1 then some true else(G139 (x.2.2.2.2.2.1,17)).bind fun v2=>some (!v2)) (fun(v2:Bool)=>Option.bind (bif v2 then some true else(G157 (x.1,(x.2.1,(x.2.2.1,(x.2.2.2.1,x.2.2.2.2.1))))).bind fun v3=>some (!decide ((x.2.2.2.2.2.2.length:Int)=v3))) (fun(v3:Bool)=>bif v3 then some false else(Am (fun(v4:Int)=>bif decide (v4<(x.2.2.2.2.2.2.length:Int))then if 0<=v4/\v4<(x.2.2.2.2.2.2.length:Int)then if 0<=v4/\v4<(x.2.1.length:Int)then if 0<=(x.2.1.getD v4.toNat 0)/\(x.2.1.getD v4.toNat 0)<(x.2.2.2.2.2.1.length:Int)then if 0<=v4/\v4<(x.2.2.1.length:Int)then if 0<=(x.2.2.1.getD v4.toNat 0)/\(x.2.2.1.getD v4.toNat 0)<(x.2.2.2.2.2.1.length:Int)then(G158 ((x.2.2.2.2.2.2.getD v4.toNat []),((x.2.2.2.2.2.1.getD ((x.2.1.getD v4.toNat 0)).toNat 0),(x.2.2.2.2.2.1.getD ((x.2.2.1.getD v4.toNat 0)).toNat 0)))).bind fun v5=>bif !v5 then AV (some false)else some (LO.next (i64.wrap (v4+1)))else none else none else none else none else none else some (LO.brk 0 v4)) 0).bind (LO.fin fun i4 v4=>if i4=0 then some true else none)))))
theorem t149:tfn E149 f149 S149=G149:=by kernel_rfl
theorem c149:FT prog 149 S149 G149:=Av As (Ab a157 c157 (Ab a139 c139 (Ab a156 c156 (Ab a158 c158 Af)))) Ae Ag Au func149 (by kernel_rfl) t149
theorem a149:Ad prog 149=true:=by kernel_rfl
def S150:Sig:=⟨[(false,(.ptr ySF))],[(false,0,yI),(false,0,yI),(false,0,yI),(false,0,yI)]⟩
def E150:AF:=⟨⟨TB,[],[],[],⟨109,[],0⟩⟩,[(3,[25],[]),(6,[38],[]),(13,[55],[]),(16,[62],[]),(20,[77],[])],[]⟩
def G150(x:SF):Option (Int×(Int×(Int×Int))):=((Am (fun(v0:Int)=>bif decide (v0<(x.2.2.2.1.length:Int))then if 0<=v0/\v0<(x.2.2.2.1.length:Int)then if 0<=(x.2.2.2.1.getD v0.toNat 0)/\(x.2.2.2.1.getD v0.toNat 0)<(x.2.2.2.2.2.2.length:Int)then(Am (fun(v1:Int)=>bif decide (v1<((x.2.2.2.2.2.2.getD ((x.2.2.2.1.getD v0.toNat 0)).toNat []).length:Int))then if 0<=v1/\v1<((x.2.2.2.2.2.2.getD ((x.2.2.2.1.getD v0.toNat 0)).toNat []).length:Int)then bif !decide (((x.2.2.2.2.2.2.getD ((x.2.2.2.1.getD v0.toNat 0)).toNat []).getD v1.toNat 0)=v1)then AV (AV (some (1,(v0,(v1,0)))))else some (LO.next (i64.wrap (v1+1)))else none else some (LO.brk 2 v1)) 0).bind (LO.fin fun i1 v1=>if i1=2 then some (LO.next (i64.wrap (v0+1)))else none)else none else none else some (LO.brk 0 v0)) 0).bind (LO.fin fun i0 v0=>if i0=0 then(Am (fun(v1:Int)=>bif decide (v1<(x.2.2.2.2.1.length:Int))then if 0<=v1/\v1<(x.2.2.2.2.1.length:Int)then(Am (fun(v2:Int)=>bif decide (v2<((x.2.2.2.2.1.getD v1.toNat []).length:Int))then if 0<=v2/\v2<((x.2.2.2.2.1.getD v1.toNat []).length:Int)then bif decide (((x.2.2.2.2.1.getD v1.toNat []).getD v2.toNat 0)<0)then some (LO.next (i64.wrap (v2+1)))else if 0<=v1/\v1<(x.2.2.2.2.2.2.length:Int)then(Am (fun(v3:Int)=>bif decide (v3<((x.2.2.2.2.2.2.getD v1.toNat []).length:Int))then if 0<=v3/\v3<((x.2.2.2.2.2.2.getD v1.toNat []).length:Int)then if 0<=((x.2.2.2.2.1.getD v1.toNat []).getD v2.toNat 0)/\((x.2.2.2.2.1.getD v1.toNat []).getD v2.toNat 0)<(x.2.2.2.2.2.2.length:Int)then if 0<=v3/\v3<((x.2.2.2.2.2.2.getD (((x.2.2.2.2.1.getD v1.toNat []).getD v2.toNat 0)).toNat []).length:Int)then if 0<=v2/\v2<(x.2.2.2.2.2.2.length:Int)then if 0<=((x.2.2.2.2.2.2.getD v1.toNat []).getD v3.toNat 0)/\((x.2.2.2.2.2.2.getD v1.toNat []).getD v3.toNat 0)<((x.2.2.2.2.2.2.getD v2.toNat []).length:Int)then bif !decide (((x.2.2.2.2.2.2.getD (((x.2.2.2.2.1.getD v1.toNat []).getD v2.toNat 0)).toNat []).getD v3.toNat 0)=((x.2.2.2.2.2.2.getD v2.toNat []).getD (((x.2.2.2.2.2.2.getD v1.toNat []).getD v3.toNat 0)).toNat 0))then AV (AV (AV (some (2,(v1,(v2,v3))))))else some (LO.next (i64.wrap (v3+1)))else none else none else none else none else none else some (LO.brk 8 v3)) 0).bind (LO.fin fun i3 v3=>if i3=8 then some (LO.next (i64.wrap (v2+1)))else none)else none else none else some (LO.brk 6 v2)) 0).bind (LO.fin fun i2 v2=>if i2=6 then some (LO.next (i64.wrap (v1+1)))else none)else none else some (LO.brk 4 v1)) 0).bind (LO.fin fun i1 v1=>if i1=4 then some (0,(0,(0,0)))else none)else none))
theorem t150:tfn E150 f150 S150=G150:=by kernel_rfl
theorem c150:FT prog 150 S150 G150:=Av As Af Ae Ag Au func150 (by kernel_rfl) t150
theorem a150:Ad prog 150=true:=by kernel_rfl
def S134:Sig:=⟨[(false,(.ptr ySF))],[(false,0,.bool)]⟩
def E134:AF:=⟨⟨TB,[⟨149,S149,G149⟩,⟨150,S150,G150⟩],[],[],⟨19,[],0⟩⟩,[],[]⟩
def G134(x:SF):Option Bool:=((G149 x).bind fun v0=>bif !v0 then some false else(G150 x).bind fun v1=>some (decide (v1.1=0)))
theorem t134:tfn E134 f134 S134=G134:=by kernel_rfl
theorem c134:FT prog 134 S134 G134:=Av As (Ab a149 c149 (Ab a150 c150 Af)) Ae Ag Au func134 (by kernel_rfl) t134
theorem a134:Ad prog 134=true:=by kernel_rfl
def S159:Sig:=⟨[(false,yL),(false,yL)],[(false,0,yI)]⟩
def E159:AF:=⟨⟨TB,[],[],[],⟨39,[],0⟩⟩,[(2,[8],[])],[]⟩
def G159(x:(LI×LI)):Option Int:=((Am (fun(v0:Int)=>bif decide (v0<(x.1.length:Int))then bif decide (v0=(x.2.length:Int))then AV (some 1)else if 0<=v0/\v0<(x.1.length:Int)then if 0<=v0/\v0<(x.2.length:Int)then bif !decide ((x.1.getD v0.toNat 0)=(x.2.getD v0.toNat 0))then if 0<=v0/\v0<(x.1.length:Int)then if 0<=v0/\v0<(x.2.length:Int)then bif decide ((x.1.getD v0.toNat 0)<(x.2.getD v0.toNat 0))then AV (some (-1))else AV (some 1)else none else none else some (LO.next (i64.wrap (v0+1)))else none else none else some (LO.brk 0 v0)) 0).bind (LO.fin fun i0 v0=>if i0=0 then bif decide ((x.1.length:Int)<(x.2.length:Int))then some (-1)else some 0 else none))
theorem t159:tfn E159 f159 S159=G159:=by kernel_rfl
theorem c159:FT prog 159 S159 G159:=Av As Af Ae Ag Au func159 (by kernel_rfl) t159
theorem a159:Ad prog 159=true:=by kernel_rfl
def S151:Sig:=⟨[(false,yL),(false,yL)],[(false,0,.bool)]⟩
def E151:AF:=⟨⟨TB,[⟨159,S159,G159⟩],[],[],⟨9,[],0⟩⟩,[],[]⟩
def G151(x:(LI×LI)):Option Bool:=((G159 (x.1,x.2)).bind fun v0=>some (decide (v0=0)))
theorem t151:tfn E151 f151 S151=G151:=by kernel_rfl
theorem c151:FT prog 151 S151 G151:=Av As (Ab a159 c159 Af) Ae Ag Au func151 (by kernel_rfl) t151
theorem a151:Ad prog 151=true:=by kernel_rfl
def S135:Sig:=⟨[(false,(.ptr yC)),(false,(.ptr yC))],[(false,0,.bool)]⟩
def E135:AF:=⟨⟨TB,[⟨151,S151,G151⟩],[],[],⟨89,[24,36,48],0⟩⟩,[(4,[69],[])],[]⟩
def G135(x:(Ca×Ca)):Option Bool:=(Option.bind (bif !decide (x.1.1=x.2.1)then some true else(G151 (x.1.2.1,x.2.2.1)).bind fun v0=>some (!v0)) (fun(v0:Bool)=>Option.bind (bif v0 then some true else(G151 (x.1.2.2.1,x.2.2.2.1)).bind fun v1=>some (!v1)) (fun(v1:Bool)=>Option.bind (bif v1 then some true else(G151 (x.1.2.2.2.1,x.2.2.2.2.1)).bind fun v2=>some (!v2)) (fun(v2:Bool)=>Option.bind (bif v2 then some true else some (!decide ((x.1.2.2.2.2.length:Int)=(x.2.2.2.2.2.length:Int)))) (fun(v3:Bool)=>bif v3 then some false else(Am (fun(v4:Int)=>bif decide (v4<(x.1.2.2.2.2.length:Int))then if 0<=v4/\v4<(x.1.2.2.2.2.length:Int)then if 0<=v4/\v4<(x.2.2.2.2.2.length:Int)then(G151 ((x.1.2.2.2.2.getD v4.toNat []),(x.2.2.2.2.2.getD v4.toNat []))).bind fun v5=>bif !v5 then AV (some false)else some (LO.next (i64.wrap (v4+1)))else none else none else some (LO.brk 0 v4)) 0).bind (LO.fin fun i4 v4=>if i4=0 then some true else none))))))
theorem t135:tfn E135 f135 S135=G135:=by kernel_rfl
theorem c135:FT prog 135 S135 G135:=Av As (Ab a151 c151 Af) Ae Ag Au func135 (by kernel_rfl) t135
theorem a135:Ad prog 135=true:=by kernel_rfl
def S152:Sig:=⟨[(false,yL)],[(false,0,.bool)]⟩
def E152:AF:=⟨⟨TB,[],[],[],⟨20,[],0⟩⟩,[(2,[3],[])],[]⟩
def G152(x:LI):Option Bool:=((Am (fun(v0:Int)=>bif decide (v0<(x.length:Int))then if 0<=(i64.wrap (v0-1))/\(i64.wrap (v0-1))<(x.length:Int)then if 0<=v0/\v0<(x.length:Int)then bif decide ((x.getD v0.toNat 0)<=(x.getD ((i64.wrap (v0-1))).toNat 0))then AV (some false)else some (LO.next (i64.wrap (v0+1)))else none else none else some (LO.brk 0 v0)) 1).bind (LO.fin fun i0 v0=>if i0=0 then some true else none))
theorem t152:tfn E152 f152 S152=G152:=by kernel_rfl
theorem c152:FT prog 152 S152 G152:=Av As Af Ae Ag Au func152 (by kernel_rfl) t152
theorem a152:Ad prog 152=true:=by kernel_rfl
def S71:Sig:=⟨[(false,(.ptr ySt)),(false,yL),(false,yI)],[(false,1,yL)]⟩
def E71:AF:=⟨⟨TB,[],[],[],⟨33,[],0⟩⟩,[(3,[7,13],[1])],[]⟩
def G71(x:(St×(LI×Int))):Option LI:=((Am (fun(v0:(Int×LI))=>bif decide (v0.1<(x.2.1.length:Int))then if 0<=v0.1/\v0.1<(x.2.1.length:Int)then if 0<=(x.2.1.getD v0.1.toNat 0)/\(x.2.1.getD v0.1.toNat 0)<(x.1.1.length:Int)then if 0<=x.2.2/\x.2.2<((x.1.1.getD ((x.2.1.getD v0.1.toNat 0)).toNat sf0).2.2.2.2.2.1.length:Int)then if(v0.2.length+(((x.1.1.getD ((x.2.1.getD v0.1.toNat 0)).toNat sf0).2.2.2.2.2.1.getD x.2.2.toNat 0):: []).length)<=17592186044416 then some (LO.next ((i64.wrap (v0.1+1)),(v0.2++(((x.1.1.getD ((x.2.1.getD v0.1.toNat 0)).toNat sf0).2.2.2.2.2.1.getD x.2.2.toNat 0):: []))))else none else none else none else none else some (LO.brk 0 (v0.1,v0.2))) (0,[])).bind (LO.fin fun i0 v0=>if i0=0 then some v0.2 else none))
theorem t71:tfn E71 f71 S71=G71:=by kernel_rfl
theorem c71:FT prog 71 S71 G71:=Av As Af Ae Ag Au func71 (by kernel_rfl) t71
theorem a71:Ad prog 71=true:=by kernel_rfl
def S111:Sig:=⟨[(false,yL)],[(false,0,yI)]⟩
def E111:AF:=⟨⟨TB,[],[],[],⟨22,[],0⟩⟩,[(3,[3,8],[])],[]⟩
def G111(x:LI):Option Int:=((Am (fun(v0:(Int×Int))=>bif decide (v0.2<(x.length:Int))then if 0<=v0.2/\v0.2<(x.length:Int)then bif decide ((x.getD v0.2.toNat 0)=0)then AV (some 0)else bif decide (v0.1<=1000000000000)then some (LO.next ((i64.wrap (v0.1*(x.getD v0.2.toNat 0))),(i64.wrap (v0.2+1))))else some (LO.next (v0.1,(i64.wrap (v0.2+1))))else none else some (LO.brk 0 (v0.1,v0.2))) (1,0)).bind (LO.fin fun i0 v0=>if i0=0 then some (minI v0.1 1000000000001)else none))
theorem t111:tfn E111 f111 S111=G111:=by kernel_rfl
theorem c111:FT prog 111 S111 G111:=Av As Af Ae Ag Au func111 (by kernel_rfl) t111
theorem a111:Ad prog 111=true:=by kernel_rfl
def S140:Sig:=⟨[(false,yI)],[(false,0,.bool)]⟩
def E140:AF:=⟨⟨TB,[⟨69,S69,G69⟩],[],[],⟨5,[],0⟩⟩,[],[]⟩
def G140(x:Int):Option Bool:=((G69 (x,(0,256))).bind fun v0=>some v0)
theorem t140:tfn E140 f140 S140=G140:=by kernel_rfl
theorem c140:FT prog 140 S140 G140:=Av As (Ab a69 c69 Af) Ae Ag Au func140 (by kernel_rfl) t140
theorem a140:Ad prog 140=true:=by kernel_rfl
def S110:Sig:=⟨[(false,yL)],[(false,0,.bool)]⟩
def E110:AF:=⟨⟨TB,[⟨140,S140,G140⟩],[],[],⟨15,[],0⟩⟩,[(2,[7],[])],[]⟩
def G110(x:LI):Option Bool:=((Am (fun(v0:Int)=>bif decide (v0<(x.length:Int))then if 0<=v0/\v0<(x.length:Int)then(G140 (x.getD v0.toNat 0)).bind fun v1=>bif !v1 then AV (some false)else some (LO.next (i64.wrap (v0+1)))else none else some (LO.brk 0 v0)) 0).bind (LO.fin fun i0 v0=>if i0=0 then some true else none))
theorem t110:tfn E110 f110 S110=G110:=by kernel_rfl
theorem c110:FT prog 110 S110 G110:=Av As (Ab a140 c140 Af) Ae Ag Au func110 (by kernel_rfl) t110
theorem a110:Ad prog 110=true:=by kernel_rfl
def S77:Sig:=⟨[(false,yL),(false,yI)],[(false,1,yL),(false,0,yI)]⟩
def E77:AF:=⟨⟨TB,[⟨69,S69,G69⟩,⟨111,S111,G111⟩,⟨110,S110,G110⟩],[],[],⟨47,[],0⟩⟩,[(10,[1,7,8],[1])],[]⟩
def G77(x:(LI×Int)):Option (LI×Int):=((G110 x.1).bind fun v0=>bif !v0 then some ([],2)else(G111 x.1).bind fun v1=>bif decide (1000000000000<v1)then some ([],3)else(G69 (x.2,(0,(i64.wrap (v1-1))))).bind fun v2=>bif !v2 then some ([],4)else if(0<=(x.1.length:Int))/\(((x.1.length:Int)<=(x.1.length:Int))/\(((8*(x.1.length:Int))<=281474976710656)/\((x.1.length:Int)<=9223372036854775807)))then(Am (fun(v3:Nd)=>bif decide (0<=v3.2.1)then if 0<=v3.2.1/\v3.2.1<(x.1.length:Int)then if(x.1.getD v3.2.1.toNat 0)≠0 then if 0<=v3.2.1/\v3.2.1<(v3.2.2.length:Int)then if 0<=v3.2.1/\v3.2.1<(x.1.length:Int)then if(x.1.getD v3.2.1.toNat 0)≠0 then some (LO.next ((i64.wrap (Int.tdiv v3.1 (x.1.getD v3.2.1.toNat 0))),((i64.wrap (v3.2.1-1)),(v3.2.2.set v3.2.1.toNat (Int.tmod v3.1 (x.1.getD v3.2.1.toNat 0))))))else none else none else none else none else none else some (LO.brk 0 (v3.1,(v3.2.1,v3.2.2)))) (x.2,((i64.wrap ((x.1.length:Int)-1)),(List.replicate (x.1.length:Int).toNat (0:Int))))).bind (LO.fin fun i3 v3=>if i3=0 then some (v3.2.2,0)else none)else none)
theorem t77:tfn E77 f77 S77=G77:=by kernel_rfl
theorem c77:FT prog 77 S77 G77:=Av As (Ab a69 c69 (Ab a111 c111 (Ab a110 c110 Af))) Ae Ag Au func77 (by kernel_rfl) t77
theorem a77:Ad prog 77=true:=by kernel_rfl
def S70:Sig:=⟨[(false,yL),(false,yL)],[(false,0,yI),(false,0,yI)]⟩
def E70:AF:=⟨⟨TB,[⟨69,S69,G69⟩,⟨111,S111,G111⟩,⟨110,S110,G110⟩],[],[],⟨55,[],0⟩⟩,[(6,[21],[]),(15,[8,40],[])],[]⟩
def G70(x:(LI×LI)):Option (Int×Int):=((G110 x.1).bind fun v0=>bif !v0 then some (0,2)else bif !decide ((x.2.length:Int)=(x.1.length:Int))then some (0,1)else(Am (fun(v1:Int)=>bif decide (v1<(x.2.length:Int))then if 0<=v1/\v1<(x.2.length:Int)then if 0<=v1/\v1<(x.1.length:Int)then(G69 ((x.2.getD v1.toNat 0),(0,(i64.wrap ((x.1.getD v1.toNat 0)-1))))).bind fun v2=>bif !v2 then AV (some (0,1))else some (LO.next (i64.wrap (v1+1)))else none else none else some (LO.brk 0 v1)) 0).bind (LO.fin fun i1 v1=>if i1=0 then(G111 x.1).bind fun v2=>bif decide (1000000000000<v2)then some (0,3)else(Am (fun(v3:(Int×Int))=>bif decide (v3.2<(x.2.length:Int))then if 0<=v3.2/\v3.2<(x.2.length:Int)then if 0<=v3.2/\v3.2<(x.1.length:Int)then some (LO.next ((i64.wrap ((i64.wrap (v3.1*(x.1.getD v3.2.toNat 0)))+(x.2.getD v3.2.toNat 0))),(i64.wrap (v3.2+1))))else none else none else some (LO.brk 2 (v3.1,v3.2))) (0,0)).bind (LO.fin fun i3 v3=>if i3=2 then some (v3.1,0)else none)else none))
theorem t70:tfn E70 f70 S70=G70:=by kernel_rfl
theorem c70:FT prog 70 S70 G70:=Av As (Ab a69 c69 (Ab a111 c111 (Ab a110 c110 Af))) Ae Ag Au func70 (by kernel_rfl) t70
theorem a70:Ad prog 70=true:=by kernel_rfl
def S115:Sig:=⟨[(false,(.ptr ySt)),(false,yL),(false,yI),(false,yI)],[(false,0,yI)]⟩
def E115:AF:=⟨⟨TB,[⟨71,S71,G71⟩,⟨77,S77,G77⟩,⟨70,S70,G70⟩],[],[],⟨81,[],0⟩⟩,[(4,[10,39],[1])],[]⟩
def G115(x:(St×(LI×(Int×Int)))):Option Int:=(if(0:Int)<=(0:Int)/\0<(x.1.1.length:Int)then if 0<=x.2.2.1/\x.2.2.1<((x.1.1.getD (0:Int).toNat sf0).2.1.length:Int)then(G71 (x.1,(x.2.1,((x.1.1.getD (0:Int).toNat sf0).2.1.getD x.2.2.1.toNat 0)))).bind fun v0=>(G77 (v0,x.2.2.2)).bind fun v1=>(Am (fun(v2:(Int×LI))=>bif decide (v2.1<(x.2.1.length:Int))then if 0<=v2.1/\v2.1<(x.2.1.length:Int)then if 0<=(x.2.1.getD v2.1.toNat 0)/\(x.2.1.getD v2.1.toNat 0)<(x.1.1.length:Int)then if 0<=x.2.2.1/\x.2.2.1<((x.1.1.getD ((x.2.1.getD v2.1.toNat 0)).toNat sf0).2.2.2.2.2.2.length:Int)then if 0<=v2.1/\v2.1<(v2.2.length:Int)then if 0<=(v2.2.getD v2.1.toNat 0)/\(v2.2.getD v2.1.toNat 0)<(((x.1.1.getD ((x.2.1.getD v2.1.toNat 0)).toNat sf0).2.2.2.2.2.2.getD x.2.2.1.toNat []).length:Int)then if 0<=v2.1/\v2.1<(v2.2.length:Int)then some (LO.next ((i64.wrap (v2.1+1)),(v2.2.set v2.1.toNat (((x.1.1.getD ((x.2.1.getD v2.1.toNat 0)).toNat sf0).2.2.2.2.2.2.getD x.2.2.1.toNat []).getD ((v2.2.getD v2.1.toNat 0)).toNat 0))))else none else none else none else none else none else none else some (LO.brk 0 (v2.1,v2.2))) (0,v1.1)).bind (LO.fin fun i2 v2=>if i2=0 then if 0<=x.2.2.1/\x.2.2.1<((x.1.1.getD (0:Int).toNat sf0).2.2.1.length:Int)then(G71 (x.1,(x.2.1,((x.1.1.getD (0:Int).toNat sf0).2.2.1.getD x.2.2.1.toNat 0)))).bind fun v3=>(G70 (v3,v2.2)).bind fun v4=>some v4.1 else none else none)else none else none)
theorem t115:tfn E115 f115 S115=G115:=by kernel_rfl
theorem c115:FT prog 115 S115 G115:=Av As (Ab a71 c71 (Ab a77 c77 (Ab a70 c70 Af))) Ae Ag Au func115 (by kernel_rfl) t115
theorem a115:Ad prog 115=true:=by kernel_rfl
def S153:Sig:=⟨[(false,yL),(false,yI)],[(false,0,.bool)]⟩
def E153:AF:=⟨⟨TB,[],[],[],⟨17,[],0⟩⟩,[(2,[9],[])],[]⟩
def G153(x:(LI×Int)):Option Bool:=((Am (fun(v0:Int)=>bif decide (v0<(x.1.length:Int))then if 0<=v0/\v0<(x.1.length:Int)then bif decide ((x.1.getD v0.toNat 0)=x.2)then AV (some true)else some (LO.next (i64.wrap (v0+1)))else none else some (LO.brk 0 v0)) 0).bind (LO.fin fun i0 v0=>if i0=0 then some false else none))
theorem t153:tfn E153 f153 S153=G153:=by kernel_rfl
theorem c153:FT prog 153 S153 G153:=Av As Af Ae Ag Au func153 (by kernel_rfl) t153
theorem a153:Ad prog 153=true:=by kernel_rfl
def S136:Sig:=⟨[(false,(.ptr ySt)),(false,(.ptr yR))],[(false,0,.bool)]⟩
def E136:AF:=⟨⟨TB,[⟨139,S139,G139⟩,⟨152,S152,G152⟩,⟨71,S71,G71⟩,⟨111,S111,G111⟩,⟨115,S115,G115⟩,⟨153,S153,G153⟩],[],[],⟨126,[33,69,70,71],0⟩⟩,[(5,[53],[]),(11,[80],[]),(14,[97],[])],[]⟩
def G136(x:(St×Rl)):Option Bool:=(if(0:Int)<=(0:Int)/\0<(x.1.1.length:Int)then Option.bind (bif decide (2<(x.2.1.length:Int))then some true else(G139 (x.2.1,(x.1.1.length:Int))).bind fun v0=>some (!v0)) (fun(v0:Bool)=>Option.bind (bif v0 then some true else some (!decide ((x.2.2.length:Int)=(x.1.1.getD (0:Int).toNat sf0).1))) (fun(v1:Bool)=>bif v1 then some false else(Am (fun(v2:Int)=>bif decide (v2<(x.2.2.length:Int))then if 0<=v2/\v2<(x.2.2.length:Int)then(G152 (x.2.2.getD v2.toNat [])).bind fun v3=>Option.bind (bif !v3 then some true else(G71 (x.1,(x.2.1,v2))).bind fun v4=>(G111 v4).bind fun v5=>(G139 ((x.2.2.getD v2.toNat []),v5)).bind fun v6=>some (!v6)) (fun(v4:Bool)=>bif v4 then AV (some false)else some (LO.next (i64.wrap (v2+1))))else none else some (LO.brk 0 v2)) 0).bind (LO.fin fun i2 v2=>if i2=0 then(Am (fun(v3:Int)=>bif decide (v3<((x.1.1.getD (0:Int).toNat sf0).2.1.length:Int))then if 0<=v3/\v3<((x.1.1.getD (0:Int).toNat sf0).2.1.length:Int)then if 0<=((x.1.1.getD (0:Int).toNat sf0).2.1.getD v3.toNat 0)/\((x.1.1.getD (0:Int).toNat sf0).2.1.getD v3.toNat 0)<(x.2.2.length:Int)then(Am (fun(v4:Int)=>bif decide (v4<((x.2.2.getD (((x.1.1.getD (0:Int).toNat sf0).2.1.getD v3.toNat 0)).toNat []).length:Int))then if 0<=v4/\v4<((x.2.2.getD (((x.1.1.getD (0:Int).toNat sf0).2.1.getD v3.toNat 0)).toNat []).length:Int)then if 0<=v3/\v3<((x.1.1.getD (0:Int).toNat sf0).2.2.1.length:Int)then if 0<=((x.1.1.getD (0:Int).toNat sf0).2.2.1.getD v3.toNat 0)/\((x.1.1.getD (0:Int).toNat sf0).2.2.1.getD v3.toNat 0)<(x.2.2.length:Int)then(G115 (x.1,(x.2.1,(v3,((x.2.2.getD (((x.1.1.getD (0:Int).toNat sf0).2.1.getD v3.toNat 0)).toNat []).getD v4.toNat 0))))).bind fun v5=>(G153 ((x.2.2.getD (((x.1.1.getD (0:Int).toNat sf0).2.2.1.getD v3.toNat 0)).toNat []),v5)).bind fun v6=>bif !v6 then AV (AV (some false))else some (LO.next (i64.wrap (v4+1)))else none else none else none else some (LO.brk 4 v4)) 0).bind (LO.fin fun i4 v4=>if i4=4 then some (LO.next (i64.wrap (v3+1)))else none)else none else none else some (LO.brk 2 v3)) 0).bind (LO.fin fun i3 v3=>if i3=2 then some true else none)else none)))else none)
theorem t136:tfn E136 f136 S136=G136:=by kernel_rfl
theorem c136:FT prog 136 S136 G136:=Av As (Ab a139 c139 (Ab a152 c152 (Ab a71 c71 (Ab a111 c111 (Ab a115 c115 (Ab a153 c153 Af)))))) Ae Ag Au func136 (by kernel_rfl) t136
theorem a136:Ad prog 136=true:=by kernel_rfl
def S107:Sig:=⟨[(false,(.ptr ySt))],[(false,0,.bool)]⟩
def E107:AF:=⟨⟨TB,[⟨69,S69,G69⟩,⟨134,S134,G134⟩,⟨135,S135,G135⟩,⟨136,S136,G136⟩],[],[],⟨72,[50],0⟩⟩,[(4,[25],[]),(10,[59],[])],[]⟩
def G107(x:St):Option Bool:=((G69 ((x.1.length:Int),(1,3))).bind fun v0=>Option.bind (bif !v0 then some true else some (decide (4<(x.2.length:Int)))) (fun(v1:Bool)=>bif v1 then some false else(Am (fun(v2:Int)=>bif decide (v2<(x.1.length:Int))then if 0<=v2/\v2<(x.1.length:Int)then(G134 (x.1.getD v2.toNat sf0)).bind fun v3=>Option.bind (bif !v3 then some true else if 0<=v2/\v2<(x.1.length:Int)then if(0:Int)<=(0:Int)/\0<(x.1.length:Int)then(G135 (((x.1.getD v2.toNat sf0).1,((x.1.getD v2.toNat sf0).2.1,((x.1.getD v2.toNat sf0).2.2.1,((x.1.getD v2.toNat sf0).2.2.2.1,(x.1.getD v2.toNat sf0).2.2.2.2.1)))),((x.1.getD (0:Int).toNat sf0).1,((x.1.getD (0:Int).toNat sf0).2.1,((x.1.getD (0:Int).toNat sf0).2.2.1,((x.1.getD (0:Int).toNat sf0).2.2.2.1,(x.1.getD (0:Int).toNat sf0).2.2.2.2.1)))))).bind fun v4=>some (!v4)else none else none) (fun(v4:Bool)=>bif v4 then AV (some false)else some (LO.next (i64.wrap (v2+1))))else none else some (LO.brk 0 v2)) 0).bind (LO.fin fun i2 v2=>if i2=0 then(Am (fun(v3:Int)=>bif decide (v3<(x.2.length:Int))then if 0<=v3/\v3<(x.2.length:Int)then(G136 (x,(x.2.getD v3.toNat rl0))).bind fun v4=>bif !v4 then AV (some false)else some (LO.next (i64.wrap (v3+1)))else none else some (LO.brk 2 v3)) 0).bind (LO.fin fun i3 v3=>if i3=2 then some true else none)else none)))
theorem t107:tfn E107 f107 S107=G107:=by kernel_rfl
theorem c107:FT prog 107 S107 G107:=Av As (Ab a69 c69 (Ab a134 c134 (Ab a135 c135 (Ab a136 c136 Af)))) Ae Ag Au func107 (by kernel_rfl) t107
theorem a107:Ad prog 107=true:=by kernel_rfl
def S137:Sig:=⟨[(false,(.ptr yN))],[(false,0,.bool)]⟩
def E137:AF:=⟨⟨TB,[⟨69,S69,G69⟩,⟨139,S139,G139⟩],[],[],⟨69,[],0⟩⟩,[],[]⟩
def G137(x:Nd):Option Bool:=((G139 (x.2.2,4)).bind fun v0=>bif !v0 then some false else bif decide (x.1=2)then(G69 (x.2.1,(0,3))).bind fun v1=>Option.bind (bif v1 then some (decide ((x.2.2.length:Int)<=2))else some false) (fun(v2:Bool)=>some v2)else bif decide (x.1=3)then Option.bind (bif decide (x.2.1=0)then some (decide ((x.2.2.length:Int)=2))else some false) (fun(v1:Bool)=>some v1)else bif decide (x.1=7)then bif decide (x.1=7)then(G69 (x.2.1,(0,2))).bind fun v1=>Option.bind (bif v1 then some (decide ((x.2.2.length:Int)=0))else some false) (fun(v2:Bool)=>some v2)else(G69 (x.1,(0,8))).bind fun v1=>Option.bind (bif v1 then some (decide (x.2.1=0))else some false) (fun(v2:Bool)=>Option.bind (bif v2 then some (decide ((x.2.2.length:Int)=0))else some false) (fun(v3:Bool)=>some v3))else bif decide (x.1=8)then(G69 (x.2.1,(0,2))).bind fun v1=>Option.bind (bif v1 then some (decide ((x.2.2.length:Int)=0))else some false) (fun(v2:Bool)=>some v2)else(G69 (x.1,(0,8))).bind fun v1=>Option.bind (bif v1 then some (decide (x.2.1=0))else some false) (fun(v2:Bool)=>Option.bind (bif v2 then some (decide ((x.2.2.length:Int)=0))else some false) (fun(v3:Bool)=>some v3)))
theorem t137:tfn E137 f137 S137=G137:=by kernel_rfl
theorem c137:FT prog 137 S137 G137:=Av As (Ab a69 c69 (Ab a139 c139 Af)) Ae Ag Au func137 (by kernel_rfl) t137
theorem a137:Ad prog 137=true:=by kernel_rfl
def S143:Sig:=⟨[(false,(.ptr yN))],[(false,0,yI)]⟩
def E143:AF:=⟨⟨TB,[],[],[],⟨14,[],0⟩⟩,[],[]⟩
def G143(x:Nd):Option Int:=(bif decide (x.1=4)then bif decide (x.1=4)then some 2 else bif decide (x.1=7)then bif decide (x.1=7)then some 1 else some 0 else bif decide (x.1=8)then some 1 else some 0 else bif decide (x.1=5)then bif decide (x.1=5)then some 2 else bif decide (x.1=7)then bif decide (x.1=7)then some 1 else some 0 else bif decide (x.1=8)then some 1 else some 0 else bif decide (x.1=6)then some 2 else bif decide (x.1=7)then bif decide (x.1=7)then some 1 else some 0 else bif decide (x.1=8)then some 1 else some 0)
theorem t143:tfn E143 f143 S143=G143:=by kernel_rfl
theorem c143:FT prog 143 S143 G143:=Av As Af Ae Ag Au func143 (by kernel_rfl) t143
theorem a143:Ad prog 143=true:=by kernel_rfl
def S138:Sig:=⟨[(false,(.sl yN)),(false,yI)],[(false,0,yI)]⟩
def E138:AF:=⟨⟨TB,[⟨143,S143,G143⟩],[],[],⟨23,[],0⟩⟩,[(2,[1,5],[])],[]⟩
def G138(x:(LN×Int)):Option Int:=((Am (fun(v0:(Int×Int))=>bif decide (0<v0.2)then bif decide ((x.1.length:Int)<=v0.1)then AV (some (-1))else if 0<=v0.1/\v0.1<(x.1.length:Int)then(G143 (x.1.getD v0.1.toNat nd0)).bind fun v1=>some (LO.next ((i64.wrap (v0.1+1)),(i64.wrap ((i64.wrap (v0.2+v1))-1))))else none else some (LO.brk 0 (v0.1,v0.2))) (x.2,1)).bind (LO.fin fun i0 v0=>if i0=0 then some v0.1 else none))
theorem t138:tfn E138 f138 S138=G138:=by kernel_rfl
theorem c138:FT prog 138 S138 G138:=Av As (Ab a143 c143 Af) Ae Ag Au func138 (by kernel_rfl) t138
theorem a138:Ad prog 138=true:=by kernel_rfl
def S108:Sig:=⟨[(false,(.sl yN))],[(false,0,.bool)]⟩
def E108:AF:=⟨⟨TB,[⟨69,S69,G69⟩,⟨137,S137,G137⟩,⟨138,S138,G138⟩],[],[],⟨24,[],0⟩⟩,[(4,[10],[])],[]⟩
def G108(x:LN):Option Bool:=((G69 ((x.length:Int),(1,40))).bind fun v0=>bif !v0 then some false else(Am (fun(v1:Int)=>bif decide (v1<(x.length:Int))then if 0<=v1/\v1<(x.length:Int)then(G137 (x.getD v1.toNat nd0)).bind fun v2=>bif !v2 then AV (some false)else some (LO.next (i64.wrap (v1+1)))else none else some (LO.brk 0 v1)) 0).bind (LO.fin fun i1 v1=>if i1=0 then(G138 (x,0)).bind fun v2=>some (decide (v2=(x.length:Int)))else none))
theorem t108:tfn E108 f108 S108=G108:=by kernel_rfl
theorem c108:FT prog 108 S108 G108:=Av As (Ab a69 c69 (Ab a137 c137 (Ab a138 c138 Af))) Ae Ag Au func108 (by kernel_rfl) t108
theorem a108:Ad prog 108=true:=by kernel_rfl
def S109:Sig:=⟨[(false,(.ptr ySt)),(false,yL)],[(false,0,.bool)]⟩
def E109:AF:=⟨⟨TB,[⟨139,S139,G139⟩],[],[],⟨17,[15],0⟩⟩,[],[]⟩
def G109(x:(St×LI)):Option Bool:=(Option.bind (bif decide ((x.2.length:Int)<=4)then(G139 (x.2,(x.1.1.length:Int))).bind fun v0=>some v0 else some false) (fun(v0:Bool)=>some v0))
theorem t109:tfn E109 f109 S109=G109:=by kernel_rfl
theorem c109:FT prog 109 S109 G109:=Av As (Ab a139 c139 Af) Ae Ag Au func109 (by kernel_rfl) t109
theorem a109:Ad prog 109=true:=by kernel_rfl
def S68:Sig:=⟨[(false,(.ptr ySt)),(false,yL),(false,(.sl (.sl yN)))],[(false,0,yI)]⟩
def E68:AF:=⟨⟨TB,[⟨107,S107,G107⟩,⟨108,S108,G108⟩,⟨109,S109,G109⟩],[],[],⟨26,[],0⟩⟩,[(4,[14],[])],[]⟩
def G68(x:(St×(LI×(List LN)))):Option Int:=((G107 x.1).bind fun v0=>bif !v0 then some 1 else(Am (fun(v1:Int)=>bif decide (v1<(x.2.2.length:Int))then if 0<=v1/\v1<(x.2.2.length:Int)then(G108 (x.2.2.getD v1.toNat ([]:LN))).bind fun v2=>bif !v2 then AV (some 1)else some (LO.next (i64.wrap (v1+1)))else none else some (LO.brk 0 v1)) 0).bind (LO.fin fun i1 v1=>if i1=0 then(G109 (x.1,x.2.1)).bind fun v2=>bif !v2 then some 2 else some 0 else none))
theorem t68:tfn E68 f68 S68=G68:=by kernel_rfl
theorem c68:FT prog 68 S68 G68:=Av As (Ab a107 c107 (Ab a108 c108 (Ab a109 c109 Af))) Ae Ag Au func68 (by kernel_rfl) t68
theorem a68:Ad prog 68=true:=by kernel_rfl
def S160:Sig:=⟨[(false,yL),(false,yL)],[(false,1,yL)]⟩
def E160:AF:=⟨⟨TB,[],[],[],⟨27,[],0⟩⟩,[(3,[5,13],[1])],[]⟩
def G160(x:(LI×LI)):Option LI:=(if(0<=(x.1.length:Int))/\(((x.1.length:Int)<=(x.1.length:Int))/\(((8*(x.1.length:Int))<=281474976710656)/\((x.1.length:Int)<=9223372036854775807)))then(Am (fun(v0:(Int×LI))=>bif decide (v0.1<(x.1.length:Int))then if 0<=v0.1/\v0.1<(x.1.length:Int)then if 0<=(x.1.getD v0.1.toNat 0)/\(x.1.getD v0.1.toNat 0)<(x.2.length:Int)then if 0<=v0.1/\v0.1<(v0.2.length:Int)then some (LO.next ((i64.wrap (v0.1+1)),(v0.2.set v0.1.toNat (x.2.getD ((x.1.getD v0.1.toNat 0)).toNat 0))))else none else none else none else some (LO.brk 0 (v0.1,v0.2))) (0,(List.replicate (x.1.length:Int).toNat (0:Int)))).bind (LO.fin fun i0 v0=>if i0=0 then some v0.2 else none)else none)
theorem t160:tfn E160 f160 S160=G160:=by kernel_rfl
theorem c160:FT prog 160 S160 G160:=Av As Af Ae Ag Au func160 (by kernel_rfl) t160
theorem a160:Ad prog 160=true:=by kernel_rfl
def S154:Sig:=⟨[(false,yL),(false,yL)],[(false,1,yL),(false,0,.bool)]⟩
def E154:AF:=⟨⟨TB,[⟨139,S139,G139⟩,⟨160,S160,G160⟩],[],[],⟨14,[],0⟩⟩,[],[]⟩
def G154(x:(LI×LI)):Option (LI×Bool):=((G139 (x.2,(x.1.length:Int))).bind fun v0=>bif !v0 then some ([],false)else(G160 (x.2,x.1)).bind fun v1=>some (v1,true))
theorem t154:tfn E154 f154 S154=G154:=by kernel_rfl
theorem c154:FT prog 154 S154 G154:=Av As (Ab a139 c139 (Ab a160 c160 Af)) Ae Ag Au func154 (by kernel_rfl) t154
theorem a154:Ad prog 154=true:=by kernel_rfl
def S79:Sig:=⟨[(false,yL)],[(false,1,yL)]⟩
def E79:AF:=⟨⟨TB,[],[],[],⟨6,[],0⟩⟩,[],[]⟩
def G79(x:LI):Option LI:=(if(([]:LI).length+x.length)<=17592186044416 then some (([]:LI)++x)else none)
theorem t79:tfn E79 f79 S79=G79:=by kernel_rfl
theorem c79:FT prog 79 S79 G79:=Av As Af Ae Ag Au func79 (by kernel_rfl) t79
theorem a79:Ad prog 79=true:=by kernel_rfl
def S142:Sig:=⟨[(false,yL),(false,yI)],[(false,1,yL)]⟩
def E142:AF:=⟨⟨TB,[⟨79,S79,G79⟩],[],[],⟨10,[],0⟩⟩,[],[]⟩
def G142(x:(LI×Int)):Option LI:=((G79 x.1).bind fun v0=>if(v0.length+(x.2:: []).length)<=17592186044416 then some (v0++(x.2:: []))else none)
theorem t142:tfn E142 f142 S142=G142:=by kernel_rfl
theorem c142:FT prog 142 S142 G142:=Av As (Ab a79 c79 Af) Ae Ag Au func142 (by kernel_rfl) t142
theorem a142:Ad prog 142=true:=by kernel_rfl
def Im(r:(St×(LI×(LN×Int)))->Option Int)(s:St)(G:LI)(x:LN)(i:Int)(k:Nd):Option Int:=((G143 k).bind fun v0=>(Am (fun(v1:(Int×Int))=>bif decide (0<v1.2)then(r (s,(G,(x,v1.1)))).bind fun v2=>bif decide (v2<0)then AV (some (-1))else some (LO.next (v2,(i64.wrap (v1.2-1))))else some (LO.brk 1 (v1.1,v1.2))) (i,v0)).bind (LO.fin fun i1 v1=>if i1=1 then some v1.1 else none))
def S141:Sig:=⟨[(false,(.ptr ySt)),(false,yL),(false,(.sl yN)),(false,yI)],[(false,0,yI)]⟩
def E141(r:(PT S141.ps).T->Option (RT S141.rs).T):AF:=⟨⟨TB,[⟨141,S141,r⟩,⟨151,S151,G151⟩,⟨143,S143,G143⟩,⟨154,S154,G154⟩,⟨142,S142,G142⟩],[],[],⟨125,[62],0⟩⟩,[(18,[3,14],[2000001]),(18,[1,3,14],[1001000]),(18,[1000018,1,3,14],[])],[]⟩
def B141(r:(St×(LI×(LN×Int)))->Option Int)(x:(St×(LI×(LN×Int)))):Option Int:=(if 0<=x.2.2.2/\x.2.2.2<(x.2.2.1.length:Int)then bif decide ((x.2.2.1.getD x.2.2.2.toNat nd0).1=2)then(G154 (x.2.1,(x.2.2.1.getD x.2.2.2.toNat nd0).2.2)).bind fun v0=>Option.bind (bif !v0.2 then some true else some (decide ((x.1.2.length:Int)<=(x.2.2.1.getD x.2.2.2.toNat nd0).2.1))) (fun(v1:Bool)=>Option.bind (bif v1 then some true else if 0<=(x.2.2.1.getD x.2.2.2.toNat nd0).2.1/\(x.2.2.1.getD x.2.2.2.toNat nd0).2.1<(x.1.2.length:Int)then(G151 (v0.1,(x.1.2.getD ((x.2.2.1.getD x.2.2.2.toNat nd0).2.1).toNat rl0).1)).bind fun v2=>some (!v2)else none) (fun(v2:Bool)=>bif v2 then some (-1)else Im r x.1 x.2.1 x.2.2.1 (i64.wrap (x.2.2.2+1)) (x.2.2.1.getD x.2.2.2.toNat nd0)))else bif decide ((x.2.2.1.getD x.2.2.2.toNat nd0).1=3)then(G154 (x.2.1,(x.2.2.1.getD x.2.2.2.toNat nd0).2.2)).bind fun v0=>Option.bind (bif !v0.2 then some true else if(0:Int)<=(0:Int)/\0<(v0.1.length:Int)then if(0:Int)<=(1:Int)/\1<(v0.1.length:Int)then some (!decide ((v0.1.getD (0:Int).toNat 0)=(v0.1.getD (1:Int).toNat 0)))else none else none) (fun(v1:Bool)=>bif v1 then some (-1)else Im r x.1 x.2.1 x.2.2.1 (i64.wrap (x.2.2.2+1)) (x.2.2.1.getD x.2.2.2.toNat nd0))else bif decide ((x.2.2.1.getD x.2.2.2.toNat nd0).1=7)then bif decide ((x.2.2.1.getD x.2.2.2.toNat nd0).1=7)then Option.bind (bif decide ((x.1.1.length:Int)<=(x.2.2.1.getD x.2.2.2.toNat nd0).2.1)then some true else some (decide ((x.2.1.length:Int)=4))) (fun(v0:Bool)=>bif v0 then some (-1)else(G142 (x.2.1,(x.2.2.1.getD x.2.2.2.toNat nd0).2.1)).bind fun v1=>Im r x.1 v1 x.2.2.1 (i64.wrap (x.2.2.2+1)) (x.2.2.1.getD x.2.2.2.toNat nd0))else Im r x.1 x.2.1 x.2.2.1 (i64.wrap (x.2.2.2+1)) (x.2.2.1.getD x.2.2.2.toNat nd0)else bif decide ((x.2.2.1.getD x.2.2.2.toNat nd0).1=8)then Option.bind (bif decide ((x.1.1.length:Int)<=(x.2.2.1.getD x.2.2.2.toNat nd0).2.1)then some true else some (decide ((x.2.1.length:Int)=4))) (fun(v0:Bool)=>bif v0 then some (-1)else(G142 (x.2.1,(x.2.2.1.getD x.2.2.2.toNat nd0).2.1)).bind fun v1=>Im r x.1 v1 x.2.2.1 (i64.wrap (x.2.2.2+1)) (x.2.2.1.getD x.2.2.2.toNat nd0))else Im r x.1 x.2.1 x.2.2.1 (i64.wrap (x.2.2.2+1)) (x.2.2.1.getD x.2.2.2.toNat nd0)else none)
def R141:Nat->(St×(LI×(LN×Int)))->Option Int
 |0,_=>none
 |n+1,x=>B141 (R141 n) x
def G141(x:(St×(LI×(LN×Int)))):Option Int:=R141 4096 x
theorem t141:(fun r=>tfn (E141 r) f141 S141)=B141:=by kernel_rfl
theorem a141:Ad prog 141=true:=by kernel_rfl
theorem b141{r:(PT S141.ps).T->Option (RT S141.rs).T}(h:FT prog 141 S141 r):FT prog 141 S141 (B141 r):=Av (E:=E141 r) As (Ab a141 h (Ab a151 c151 (Ab a143 c143 (Ab a154 c154 (Ab a142 c142 Af))))) Ae Ag Au func141 (by kernel_rfl) (congrFun t141 r)
theorem r141: ∀n,FT prog 141 S141 (R141 n)
 |0=>fun _ _ h=>by cases h
 |n+1=>b141 (r141 n)
theorem c141:FT prog 141 S141 G141:=r141 4096
def S112:Sig:=⟨[(false,(.ptr ySt)),(false,yL),(false,(.sl yN))],[(false,0,.bool)]⟩
def E112:AF:=⟨⟨TB,[⟨141,S141,G141⟩],[],[],⟨12,[],0⟩⟩,[],[]⟩
def G112(x:(St×(LI×LN))):Option Bool:=((G141 (x.1,(x.2.1,(x.2.2,0)))).bind fun v0=>some (decide (0<=v0)))
theorem t112:tfn E112 f112 S112=G112:=by kernel_rfl
theorem c112:FT prog 112 S112 G112:=Av As (Ab a141 c141 Af) Ae Ag Au func112 (by kernel_rfl) t112
theorem a112:Ad prog 112=true:=by kernel_rfl
def S116:Sig:=⟨[(false,(.ptr ySt)),(false,yL)],[(false,1,yL)]⟩
def E116:AF:=⟨⟨TB,[⟨71,S71,G71⟩,⟨111,S111,G111⟩],[],[],⟨29,[],0⟩⟩,[(3,[5,16],[1])],[]⟩
def G116(x:(St×LI)):Option LI:=(if(0:Int)<=(0:Int)/\0<(x.1.1.length:Int)then(Am (fun(v0:(Int×LI))=>bif decide (v0.1<(x.1.1.getD (0:Int).toNat sf0).1)then(G71 (x.1,(x.2,v0.1))).bind fun v1=>(G111 v1).bind fun v2=>if(v0.2.length+(v2:: []).length)<=17592186044416 then some (LO.next ((i64.wrap (v0.1+1)),(v0.2++(v2:: []))))else none else some (LO.brk 0 (v0.1,v0.2))) (0,[])).bind (LO.fin fun i0 v0=>if i0=0 then some v0.2 else none)else none)
theorem t116:tfn E116 f116 S116=G116:=by kernel_rfl
theorem c116:FT prog 116 S116 G116:=Av As (Ab a71 c71 (Ab a111 c111 Af)) Ae Ag Au func116 (by kernel_rfl) t116
theorem a116:Ad prog 116=true:=by kernel_rfl
def Mh(r:(St×(LI×(LN×Int)))->Option (Bool×Int))(s:St)(G:LI)(x:LN)(i:Int)(k:Nd):Option (Bool×Int):=((G143 k).bind fun v0=>(Am (fun(v1:(Int×Int))=>bif decide (0<v1.2)then(r (s,(G,(x,v1.1)))).bind fun v2=>bif !v2.1 then AV (some (false,(-1)))else some (LO.next (v2.2,(i64.wrap (v1.2-1))))else some (LO.brk 2 (v1.1,v1.2))) (i,v0)).bind (LO.fin fun i1 v1=>if i1=2 then some (true,v1.1)else none))
def S113:Sig:=⟨[(false,(.ptr ySt)),(false,yL),(false,(.sl yN)),(false,yI)],[(false,0,.bool),(false,0,yI)]⟩
def E113(r:(PT S113.ps).T->Option (RT S113.rs).T):AF:=⟨⟨TB,[⟨113,S113,r⟩,⟨143,S143,G143⟩,⟨142,S142,G142⟩,⟨116,S116,G116⟩],[],[],⟨68,[],0⟩⟩,[(2,[18,20],[2000001,2000003,1018000,2000019]),(2,[1000002,1,3,18,19,20],[]),(12,[1,3,13],[1001001]),(12,[3,13],[2000001]),(12,[1000012,1,3,13],[])],[]⟩
def B113(r:(St×(LI×(LN×Int)))->Option (Bool×Int))(x:(St×(LI×(LN×Int)))):Option (Bool×Int):=((G116 (x.1,x.2.1)).bind fun v0=>(Am (fun(v1:Int)=>bif decide (v1<(v0.length:Int))then if 0<=v1/\v1<(v0.length:Int)then bif decide (256<(v0.getD v1.toNat 0))then AV (some (false,(-1)))else some (LO.next (i64.wrap (v1+1)))else none else some (LO.brk 0 v1)) 0).bind (LO.fin fun i1 v1=>if i1=0 then if 0<=x.2.2.2/\x.2.2.2<(x.2.2.1.length:Int)then Option.bind (bif decide ((x.2.2.1.getD x.2.2.2.toNat nd0).1=7)then some true else some (decide ((x.2.2.1.getD x.2.2.2.toNat nd0).1=8))) (fun(v2:Bool)=>bif v2 then(G142 (x.2.1,(x.2.2.1.getD x.2.2.2.toNat nd0).2.1)).bind fun v3=>Mh r x.1 v3 x.2.2.1 (i64.wrap (x.2.2.2+1)) (x.2.2.1.getD x.2.2.2.toNat nd0)else Mh r x.1 x.2.1 x.2.2.1 (i64.wrap (x.2.2.2+1)) (x.2.2.1.getD x.2.2.2.toNat nd0))else none else none))
def R113:Nat->(St×(LI×(LN×Int)))->Option (Bool×Int)
 |0,_=>none
 |n+1,x=>B113 (R113 n) x
def G113(x:(St×(LI×(LN×Int)))):Option (Bool×Int):=R113 4096 x
theorem t113:(fun r=>tfn (E113 r) f113 S113)=B113:=by kernel_rfl
theorem a113:Ad prog 113=true:=by kernel_rfl
theorem b113{r:(PT S113.ps).T->Option (RT S113.rs).T}(h:FT prog 113 S113 r):FT prog 113 S113 (B113 r):=Av (E:=E113 r) As (Ab a113 h (Ab a143 c143 (Ab a142 c142 (Ab a116 c116 Af)))) Ae Ag Au func113 (by kernel_rfl) (congrFun t113 r)
theorem r113: ∀n,FT prog 113 S113 (R113 n)
 |0=>fun _ _ h=>by cases h
 |n+1=>b113 (r113 n)
theorem c113:FT prog 113 S113 G113:=r113 4096
def S72:Sig:=⟨[(false,(.ptr ySt)),(false,yL),(false,(.sl (.sl yN)))],[(false,0,yI)]⟩
def E72:AF:=⟨⟨TB,[⟨112,S112,G112⟩,⟨113,S113,G113⟩],[],[],⟨41,[],0⟩⟩,[(2,[15],[2000013,2000014]),(2,[1000002,13,14,15],[]),(8,[27],[2000025,2000026]),(8,[1000008,25,26,27],[])],[]⟩
def G72(x:(St×(LI×(List LN)))):Option Int:=((Am (fun(v0:Int)=>bif decide (v0<(x.2.2.length:Int))then if 0<=v0/\v0<(x.2.2.length:Int)then(G112 (x.1,(x.2.1,(x.2.2.getD v0.toNat ([]:LN))))).bind fun v1=>bif !v1 then AV (some 5)else some (LO.next (i64.wrap (v0+1)))else none else some (LO.brk 0 v0)) 0).bind (LO.fin fun i0 v0=>if i0=0 then(Am (fun(v1:Int)=>bif decide (v1<(x.2.2.length:Int))then if 0<=v1/\v1<(x.2.2.length:Int)then(G113 (x.1,(x.2.1,((x.2.2.getD v1.toNat ([]:LN)),0)))).bind fun v2=>bif !v2.1 then AV (some 3)else some (LO.next (i64.wrap (v1+1)))else none else some (LO.brk 2 v1)) 0).bind (LO.fin fun i1 v1=>if i1=2 then some 0 else none)else none))
theorem t72:tfn E72 f72 S72=G72:=by kernel_rfl
theorem c72:FT prog 72 S72 G72:=Av As (Ab a112 c112 (Ab a113 c113 Af)) Ae Ag Au func72 (by kernel_rfl) t72
theorem a72:Ad prog 72=true:=by kernel_rfl
def S74:SigN:=⟨[(false,(.ptr ySt))],[(false,0,(.ptr yF))]⟩
def E74:AF:=⟨⟨TB,[],[],[],⟨12,[11],0⟩⟩,[],[]⟩
def G74(x:St):Option (Bool×(St×Ca)):=(if(0:Int)<=(0:Int)/\0<(x.1.length:Int)then some (true,(x,((x.1.getD (0:Int).toNat sf0).1,((x.1.getD (0:Int).toNat sf0).2.1,((x.1.getD (0:Int).toNat sf0).2.2.1,((x.1.getD (0:Int).toNat sf0).2.2.2.1,(x.1.getD (0:Int).toNat sf0).2.2.2.2.1))))))else none)
theorem t74:tfnN E74 f74 S74=G74:=by kernel_rfl
theorem c74:FTN prog 74 S74 G74:=FTN_fn As Af Ae Ag Au func74 (by kernel_rfl) t74
theorem a74:Ad prog 74=true:=by kernel_rfl
def S86:Sig:=⟨[(false,(.ptr yF)),(false,yL),(false,.bool)],[(false,2,(.sl (.sl .bool)))]⟩
def E86:AF:=⟨⟨TB,[⟨116,S116,G116⟩],[],[],⟨42,[],0⟩⟩,[(3,[7,18,20],[1,2]),(7,[7,10,18,28],[1,3,2])],[]⟩
def G86(x:((St×Ca)×(LI×Bool))):Option LLB:=((G116 (x.1.1,x.2.1)).bind fun v0=>(Am (fun(v1:(Int×(LLB×LI)))=>bif decide (v1.1<(v0.length:Int))then if 0<=v1.1/\v1.1<(v1.2.2.length:Int)then if(0<=(v1.2.2.getD v1.1.toNat 0))/\(((v1.2.2.getD v1.1.toNat 0)<=(v1.2.2.getD v1.1.toNat 0))/\(((1*(v1.2.2.getD v1.1.toNat 0))<=281474976710656)/\((v1.2.2.getD v1.1.toNat 0)<=9223372036854775807)))then(Am (fun(v2:(Int×(LLB×(LB×LI))))=>bif decide (v2.1<((List.replicate ((v1.2.2.getD v1.1.toNat (0:Int))).toNat false).length:Int))then if 0<=v2.1/\v2.1<(v2.2.2.1.length:Int)then some (LO.next ((i64.wrap (v2.1+1)),(v2.2.1,((v2.2.2.1.set v2.1.toNat x.2.2),v2.2.2.2))))else none else some (LO.brk 2 (v2.1,(v2.2.1,(v2.2.2.1,v2.2.2.2))))) (0,(v1.2.1,((List.replicate ((v1.2.2.getD v1.1.toNat (0:Int))).toNat false),v1.2.2)))).bind (LO.fin fun i2 v2=>if i2=2 then if True then if(v2.2.1.length+(v2.2.2.1:: []).length)<=5864062014805 then some (LO.next ((i64.wrap (v1.1+1)),((v2.2.1++(v2.2.2.1:: [])),v2.2.2.2)))else none else none else none)else none else none else some (LO.brk 0 (v1.1,(v1.2.1,v1.2.2)))) (0,([],v0))).bind (LO.fin fun i1 v1=>if i1=0 then some v1.2.1 else none))
theorem t86:tfn E86 f86 S86=G86:=by kernel_rfl
theorem c86:FT prog 86 S86 G86:=Av As (Ab a116 c116 Af) Ae Ag Au func86 (by kernel_rfl) t86
theorem a86:Ad prog 86=true:=by kernel_rfl
def S185:Sig:=⟨[(false,yI),(false,yL),(false,(.ptr (.ptr yF))),(false,(.ptr (.ptr yR))),(false,(.ptr (.ptr yN)))],[(false,0,.bool)]⟩
def E185:AF:=⟨⟨TB,[⟨71,S71,G71⟩,⟨70,S70,G70⟩,⟨153,S153,G153⟩,⟨160,S160,G160⟩],[],[],⟨39,[],0⟩⟩,[],[]⟩
def G185(x:(Int×(LI×((St×Ca)×(Rl×Nd))))):Option Bool:=((G71 (x.2.2.1.1,(x.2.2.2.1.1,x.1))).bind fun v0=>(G160 (x.2.2.2.2.2.2,x.2.1)).bind fun v1=>(G70 (v0,v1)).bind fun v2=>if 0<=x.1/\x.1<(x.2.2.2.1.2.length:Int)then(G153 ((x.2.2.2.1.2.getD x.1.toNat []),v2.1)).bind fun v3=>some v3 else none)
theorem t185:tfn E185 f185 S185=G185:=by kernel_rfl
theorem c185:FT prog 185 S185 G185:=Av As (Ab a71 c71 (Ab a70 c70 (Ab a153 c153 (Ab a160 c160 Af)))) Ae Ag Au func185 (by kernel_rfl) t185
theorem a185:Ad prog 185=true:=by kernel_rfl
def S186:Sig:=⟨[(false,yI),(false,yL),(false,(.ptr (.ptr yN)))],[(false,0,.bool)]⟩
def E186:AF:=⟨⟨TB,[],[],[],⟨25,[],0⟩⟩,[],[]⟩
def G186(x:(Int×(LI×Nd))):Option Bool:=(if(0:Int)<=(0:Int)/\0<(x.2.2.2.2.length:Int)then if 0<=(x.2.2.2.2.getD (0:Int).toNat 0)/\(x.2.2.2.2.getD (0:Int).toNat 0)<(x.2.1.length:Int)then if(0:Int)<=(1:Int)/\1<(x.2.2.2.2.length:Int)then if 0<=(x.2.2.2.2.getD (1:Int).toNat 0)/\(x.2.2.2.2.getD (1:Int).toNat 0)<(x.2.1.length:Int)then some (decide ((x.2.1.getD ((x.2.2.2.2.getD (0:Int).toNat 0)).toNat 0)=(x.2.1.getD ((x.2.2.2.2.getD (1:Int).toNat 0)).toNat 0)))else none else none else none else none)
theorem t186:tfn E186 f186 S186=G186:=by kernel_rfl
theorem c186:FT prog 186 S186 G186:=Av As Af Ae Ag Au func186 (by kernel_rfl) t186
theorem a186:Ad prog 186=true:=by kernel_rfl
def tld(c:Int×List Int->Option Bool)(F:(St×Ca))(G:LI):Option LLB:=((G86 (F,(G,false))).bind fun v0=>(Am (fun(v1:(Int×LLB))=>bif decide (v1.1<(v0.length:Int))then if 0<=v1.1/\v1.1<(v1.2.length:Int)then(G71 (F.1,(G,v1.1))).bind fun v2=>(Am (fun(v3:(Int×(Int×(LLB×LI))))=>bif decide (v3.2.1<((v1.2.getD v1.1.toNat []).length:Int))then(G77 (v3.2.2.2,v3.2.1)).bind fun v4=>Option.bind (c (v1.1,v4.1)) (fun(v5:Bool)=>if 0<=v3.2.1/\v3.2.1<((v3.2.2.1.getD v3.1.toNat []).length:Int)then some (LO.next ((v3.1.toNat:Int),((i64.wrap (v3.2.1+1)),((v3.2.2.1.set v3.1.toNat ((v3.2.2.1.getD v3.1.toNat []).set v3.2.1.toNat v5)),v3.2.2.2))))else none)else some (LO.brk 2 ((v3.1.toNat:Int),(v3.2.1,(v3.2.2.1,v3.2.2.2))))) ((v1.1.toNat:Int),(0,(v1.2,v2)))).bind (LO.fin fun i3 v3=>if i3=2 then some (LO.next ((i64.wrap (v1.1+1)),v3.2.2.1))else none)else none else some (LO.brk 0 (v1.1,v1.2))) (0,v0)).bind (LO.fin fun i1 v1=>if i1=0 then some v1.2 else none))
def S10184:Sig:=⟨[(false,(.ptr yF)),(false,yL),(false,(.clo 185 (.pair (.ptr (.ptr yF)) (.pair (.ptr (.ptr yR)) (.ptr (.ptr yN))))))],[(false,2,(.sl (.sl .bool)))]⟩
def E10184:AF:=⟨⟨TB,[⟨71,S71,G71⟩,⟨77,S77,G77⟩,⟨86,S86,G86⟩,⟨185,S185,G185⟩],[],[],⟨52,[],0⟩⟩,[(3,[7,17,19],[1,1007001,1017001,2000018]),(3,[1000003,7,17,18,19],[]),(7,[7,9,10,17,33],[1,2,1007001,2000008,1009001,1010002,1017001,2000018,2000019,2000032]),(7,[1000007,7,8,9,10,17,18,19,32,33],[])],[]⟩
def G10184(x:((St×Ca)×(LI×((St×Ca)×(Rl×Nd))))):Option LLB:=(tld (fun p=>G185 (p.1,(p.2,x.2.2))) x.1 x.2.1)
theorem t10184:tfn E10184 f184 S10184=G10184:=by kernel_rfl
theorem c10184:FT prog 184 S10184 G10184:=Av As (Ab a71 c71 (Ab a77 c77 (Ab a86 c86 (Ab a185 c185 Af)))) Ae Ag Au func184 (by kernel_rfl) t10184
theorem a10184:Ad prog 184=true:=by kernel_rfl
def S20184:Sig:=⟨[(false,(.ptr yF)),(false,yL),(false,(.clo 186 (.ptr (.ptr yN))))],[(false,2,(.sl (.sl .bool)))]⟩
def E20184:AF:=⟨⟨TB,[⟨71,S71,G71⟩,⟨77,S77,G77⟩,⟨86,S86,G86⟩,⟨186,S186,G186⟩],[],[],⟨52,[],0⟩⟩,[(3,[7,17,19],[1,1007001,1017001,2000018]),(3,[1000003,7,17,18,19],[]),(7,[7,9,10,17,33],[1,2,1007001,2000008,1009001,1010002,1017001,2000018,2000019,2000032]),(7,[1000007,7,8,9,10,17,18,19,32,33],[])],[]⟩
def G20184(x:((St×Ca)×(LI×Nd))):Option LLB:=(tld (fun p=>G186 (p.1,(p.2,x.2.2))) x.1 x.2.1)
theorem t20184:tfn E20184 f184 S20184=G20184:=by kernel_rfl
theorem c20184:FT prog 184 S20184 G20184:=Av As (Ab a71 c71 (Ab a77 c77 (Ab a86 c86 (Ab a186 c186 Af)))) Ae Ag Au func184 (by kernel_rfl) t20184
theorem a20184:Ad prog 184=true:=by kernel_rfl
def S187:Sig:=⟨[(false,(.ptr yF)),(false,yL),(false,yI),(false,(.sl (.sl .bool))),(false,.bool)],[(false,2,(.sl (.sl .bool)))]⟩
def E187:AF:=⟨⟨TB,[⟨86,S86,G86⟩],[],[],⟨73,[],0⟩⟩,[(3,[11,21,23],[1,1011001,1021001,2000022]),(3,[1000003,11,21,22,23],[]),(7,[11,13,21,44],[1,1011001,2000012,1013001,2000014,1021001,2000022,2000023,2000043]),(7,[1000007,11,12,13,14,21,22,23,43,44],[]),(10,[11,13,21,48],[1,1011001,2000012,1013001,2000014,2000015,1021001,2000022,2000023,2000043,2000044,2000047]),(10,[1000010,11,12,13,14,15,21,22,23,43,44,47,48],[])],[]⟩
def G187(x:((St×Ca)×(LI×(Int×(LLB×Bool))))):Option LLB:=((G86 (x.1,(x.2.1,x.2.2.2.2))).bind fun v0=>(Am (fun(v1:(Int×LLB))=>bif decide (v1.1<(v0.length:Int))then if 0<=v1.1/\v1.1<(v1.2.length:Int)then if 0<=x.2.2.1/\x.2.2.1<(x.1.1.1.length:Int)then if 0<=v1.1/\v1.1<((x.1.1.1.getD x.2.2.1.toNat sf0).2.2.2.2.2.1.length:Int)then(Am (fun(v2:(Int×(Int×LLB)))=>bif decide (v2.2.1<((v1.2.getD v1.1.toNat []).length:Int))then(Am (fun(v3:(Int×(Int×LLB)))=>bif decide (v3.2.1<((x.1.1.1.getD x.2.2.1.toNat sf0).2.2.2.2.2.1.getD v1.1.toNat 0))then if 0<=v1.1/\v1.1<(x.2.2.2.1.length:Int)then if 0<=(i64.wrap ((i64.wrap (v2.2.1*((x.1.1.1.getD x.2.2.1.toNat sf0).2.2.2.2.2.1.getD v1.1.toNat 0)))+v3.2.1))/\(i64.wrap ((i64.wrap (v2.2.1*((x.1.1.1.getD x.2.2.1.toNat sf0).2.2.2.2.2.1.getD v1.1.toNat 0)))+v3.2.1))<((x.2.2.2.1.getD v1.1.toNat []).length:Int)then bif !(((x.2.2.2.1.getD v1.1.toNat []).getD ((i64.wrap ((i64.wrap (v2.2.1*((x.1.1.1.getD x.2.2.1.toNat sf0).2.2.2.2.2.1.getD v1.1.toNat 0)))+v3.2.1))).toNat false)==x.2.2.2.2)then if 0<=v2.2.1/\v2.2.1<((v3.2.2.getD v3.1.toNat []).length:Int)then some (LO.next ((v3.1.toNat:Int),((i64.wrap (v3.2.1+1)),(v3.2.2.set v3.1.toNat ((v3.2.2.getD v3.1.toNat []).set v2.2.1.toNat (!x.2.2.2.2))))))else none else some (LO.next ((v3.1.toNat:Int),((i64.wrap (v3.2.1+1)),v3.2.2)))else none else none else some (LO.brk 4 ((v3.1.toNat:Int),(v3.2.1,v3.2.2)))) ((v2.1.toNat:Int),(0,v2.2.2))).bind (LO.fin fun i3 v3=>if i3=4 then some (LO.next ((v3.1.toNat:Int),((i64.wrap (v2.2.1+1)),v3.2.2)))else none)else some (LO.brk 2 ((v2.1.toNat:Int),(v2.2.1,v2.2.2)))) ((v1.1.toNat:Int),(0,v1.2))).bind (LO.fin fun i2 v2=>if i2=2 then some (LO.next ((i64.wrap (v1.1+1)),v2.2.2))else none)else none else none else none else some (LO.brk 0 (v1.1,v1.2))) (0,v0)).bind (LO.fin fun i1 v1=>if i1=0 then some v1.2 else none))
theorem t187:tfn E187 f187 S187=G187:=by kernel_rfl
theorem c187:FT prog 187 S187 G187:=Av As (Ab a86 c86 Af) Ae Ag Au func187 (by kernel_rfl) t187
theorem a187:Ad prog 187=true:=by kernel_rfl
def S81:Sig:=⟨[(false,(.ptr yF)),(false,yL),(false,(.sl (.sl .bool)))],[(false,2,(.sl (.sl .bool)))]⟩
def E81:AF:=⟨⟨TB,[⟨115,S115,G115⟩,⟨86,S86,G86⟩],[],[],⟨87,[73],0⟩⟩,[(3,[7,23],[1]),(7,[7,51],[1])],[]⟩
def G81(x:((St×Ca)×(LI×LLB))):Option LLB:=((G86 (x.1,(x.2.1,true))).bind fun v0=>(Am (fun(v1:(Int×LLB))=>bif decide (v1.1<(x.1.2.2.1.length:Int))then if 0<=v1.1/\v1.1<(x.1.2.2.1.length:Int)then if 0<=v1.1/\v1.1<(x.1.2.2.2.1.length:Int)then if 0<=(x.1.2.2.1.getD v1.1.toNat 0)/\(x.1.2.2.1.getD v1.1.toNat 0)<(v1.2.length:Int)then(Am (fun(v2:(Int×LLB))=>bif decide (v2.1<((v1.2.getD ((x.1.2.2.1.getD v1.1.toNat 0)).toNat []).length:Int))then if 0<=(x.1.2.2.1.getD v1.1.toNat 0)/\(x.1.2.2.1.getD v1.1.toNat 0)<(v2.2.length:Int)then if 0<=v2.1/\v2.1<((v2.2.getD ((x.1.2.2.1.getD v1.1.toNat 0)).toNat []).length:Int)then Option.bind (bif(v2.2.getD ((x.1.2.2.1.getD v1.1.toNat 0)).toNat []).getD v2.1.toNat false then if 0<=(x.1.2.2.2.1.getD v1.1.toNat 0)/\(x.1.2.2.2.1.getD v1.1.toNat 0)<(x.2.2.length:Int)then(G115 (x.1.1,(x.2.1,(v1.1,v2.1)))).bind fun v3=>if 0<=v3/\v3<((x.2.2.getD ((x.1.2.2.2.1.getD v1.1.toNat 0)).toNat []).length:Int)then some (!((x.2.2.getD ((x.1.2.2.2.1.getD v1.1.toNat 0)).toNat []).getD v3.toNat false))else none else none else some false) (fun(v3:Bool)=>bif v3 then if 0<=(x.1.2.2.1.getD v1.1.toNat 0)/\(x.1.2.2.1.getD v1.1.toNat 0)<(v2.2.length:Int)then if 0<=v2.1/\v2.1<((v2.2.getD ((x.1.2.2.1.getD v1.1.toNat 0)).toNat []).length:Int)then some (LO.next ((i64.wrap (v2.1+1)),(v2.2.set ((x.1.2.2.1.getD v1.1.toNat 0)).toNat ((v2.2.getD ((x.1.2.2.1.getD v1.1.toNat 0)).toNat []).set v2.1.toNat false))))else none else none else some (LO.next ((i64.wrap (v2.1+1)),v2.2)))else none else none else some (LO.brk 2 (v2.1,v2.2))) (0,v1.2)).bind (LO.fin fun i2 v2=>if i2=2 then some (LO.next ((i64.wrap (v1.1+1)),v2.2))else none)else none else none else none else some (LO.brk 0 (v1.1,v1.2))) (0,v0)).bind (LO.fin fun i1 v1=>if i1=0 then some v1.2 else none))
theorem t81:tfn E81 f81 S81=G81:=by kernel_rfl
theorem c81:FT prog 81 S81 G81:=Av As (Ab a115 c115 (Ab a86 c86 Af)) Ae Ag Au func81 (by kernel_rfl) t81
theorem a81:Ad prog 81=true:=by kernel_rfl
def S188:Sig:=⟨[(false,.bool),(false,.bool)],[(false,0,.bool)]⟩
def E188:AF:=⟨⟨TB,[],[],[],⟨9,[],0⟩⟩,[],[]⟩
def G188(x:(Bool×Bool)):Option Bool:=(Option.bind (bif x.1 then some x.2 else some false) (fun(v0:Bool)=>some v0))
theorem t188:tfn E188 f188 S188=G188:=by kernel_rfl
theorem c188:FT prog 188 S188 G188:=Av As Af Ae Ag Au func188 (by kernel_rfl) t188
theorem a188:Ad prog 188=true:=by kernel_rfl
def S189:Sig:=⟨[(false,.bool),(false,.bool)],[(false,0,.bool)]⟩
def E189:AF:=⟨⟨TB,[],[],[],⟨9,[],0⟩⟩,[],[]⟩
def G189(x:(Bool×Bool)):Option Bool:=(Option.bind (bif x.1 then some true else some x.2) (fun(v0:Bool)=>some v0))
theorem t189:tfn E189 f189 S189=G189:=by kernel_rfl
theorem c189:FT prog 189 S189 G189:=Av As Af Ae Ag Au func189 (by kernel_rfl) t189
theorem a189:Ad prog 189=true:=by kernel_rfl
def S190:Sig:=⟨[(false,.bool),(false,.bool)],[(false,0,.bool)]⟩
def E190:AF:=⟨⟨TB,[],[],[],⟨10,[],0⟩⟩,[],[]⟩
def G190(x:(Bool×Bool)):Option Bool:=(Option.bind (bif !x.1 then some true else some x.2) (fun(v0:Bool)=>some v0))
theorem t190:tfn E190 f190 S190=G190:=by kernel_rfl
theorem c190:FT prog 190 S190 G190:=Av As Af Ae Ag Au func190 (by kernel_rfl) t190
theorem a190:Ad prog 190=true:=by kernel_rfl
def pw(c:Bool×Bool->Option Bool)(x:(LLB×(LLB×Unit))):Option LLB:=((Am (fun(v0:(Int×LLB))=>bif decide (v0.1<(x.1.length:Int))then if 0<=v0.1/\v0.1<(x.1.length:Int)then if(0<=((x.1.getD v0.1.toNat []).length:Int))/\((((x.1.getD v0.1.toNat []).length:Int)<=((x.1.getD v0.1.toNat []).length:Int))/\(((1*((x.1.getD v0.1.toNat []).length:Int))<=281474976710656)/\(((x.1.getD v0.1.toNat []).length:Int)<=9223372036854775807)))then(Am (fun(v1:(Int×(LLB×LB)))=>bif decide (v1.1<((List.replicate (((x.1.getD v0.1.toNat []).length:Int)).toNat false).length:Int))then if 0<=v0.1/\v0.1<(x.1.length:Int)then if 0<=v1.1/\v1.1<((x.1.getD v0.1.toNat []).length:Int)then if 0<=v0.1/\v0.1<(x.2.1.length:Int)then if 0<=v1.1/\v1.1<((x.2.1.getD v0.1.toNat []).length:Int)then Option.bind (c (((x.1.getD v0.1.toNat []).getD v1.1.toNat false),((x.2.1.getD v0.1.toNat []).getD v1.1.toNat false))) (fun(v2:Bool)=>if 0<=v1.1/\v1.1<(v1.2.2.length:Int)then some (LO.next ((i64.wrap (v1.1+1)),(v1.2.1,(v1.2.2.set v1.1.toNat v2))))else none)else none else none else none else none else some (LO.brk 2 (v1.1,(v1.2.1,v1.2.2)))) (0,(v0.2,(List.replicate (((x.1.getD v0.1.toNat []).length:Int)).toNat false)))).bind (LO.fin fun i1 v1=>if i1=2 then if True then if(v1.2.1.length+(v1.2.2:: []).length)<=5864062014805 then some (LO.next ((i64.wrap (v0.1+1)),(v1.2.1++(v1.2.2:: []))))else none else none else none)else none else none else some (LO.brk 0 (v0.1,v0.2))) (0,[])).bind (LO.fin fun i0 v0=>if i0=0 then some v0.2 else none))
def S10082:Sig:=⟨[(false,(.sl (.sl .bool))),(false,(.sl (.sl .bool))),(false,(.clo 188 .unit))],[(false,2,(.sl (.sl .bool)))]⟩
def E10082:AF:=⟨⟨TB,[⟨188,S188,G188⟩],[],[],⟨54,[],0⟩⟩,[(3,[7,14],[1]),(7,[7,9,25],[1,2])],[]⟩
def G10082(x:(LLB×(LLB×Unit))):Option LLB:=(pw G188 x)
theorem t10082:tfn E10082 f82 S10082=G10082:=by kernel_rfl
theorem c10082:FT prog 82 S10082 G10082:=Av As (Ab a188 c188 Af) Ae Ag Au func82 (by kernel_rfl) t10082
theorem a10082:Ad prog 82=true:=by kernel_rfl
def S20082:Sig:=⟨[(false,(.sl (.sl .bool))),(false,(.sl (.sl .bool))),(false,(.clo 189 .unit))],[(false,2,(.sl (.sl .bool)))]⟩
def E20082:AF:=⟨⟨TB,[⟨189,S189,G189⟩],[],[],⟨54,[],0⟩⟩,[(3,[7,14],[1]),(7,[7,9,25],[1,2])],[]⟩
def G20082(x:(LLB×(LLB×Unit))):Option LLB:=(pw G189 x)
theorem t20082:tfn E20082 f82 S20082=G20082:=by kernel_rfl
theorem c20082:FT prog 82 S20082 G20082:=Av As (Ab a189 c189 Af) Ae Ag Au func82 (by kernel_rfl) t20082
theorem a20082:Ad prog 82=true:=by kernel_rfl
def S30082:Sig:=⟨[(false,(.sl (.sl .bool))),(false,(.sl (.sl .bool))),(false,(.clo 190 .unit))],[(false,2,(.sl (.sl .bool)))]⟩
def E30082:AF:=⟨⟨TB,[⟨190,S190,G190⟩],[],[],⟨54,[],0⟩⟩,[(3,[7,14],[1]),(7,[7,9,25],[1,2])],[]⟩
def G30082(x:(LLB×(LLB×Unit))):Option LLB:=(pw G190 x)
theorem t30082:tfn E30082 f82 S30082=G30082:=by kernel_rfl
theorem c30082:FT prog 82 S30082 G30082:=Av As (Ab a190 c190 Af) Ae Ag Au func82 (by kernel_rfl) t30082
theorem a30082:Ad prog 82=true:=by kernel_rfl
def S183:Sig:=⟨[(false,(.ptr yF)),(false,yL),(false,(.sl yN)),(false,yI)],[(false,2,(.sl (.sl .bool))),(false,0,yI)]⟩
def E183(r:(PT S183.ps).T->Option (RT S183.rs).T):AF:=⟨⟨TB,[⟨183,S183,r⟩,⟨142,S142,G142⟩,⟨86,S86,G86⟩,⟨185,S185,G185⟩,⟨186,S186,G186⟩,⟨81,S81,G81⟩,⟨188,S188,G188⟩,⟨189,S189,G189⟩,⟨190,S190,G190⟩,⟨82,S10082,G10082⟩,⟨82,S20082,G20082⟩,⟨82,S30082,G30082⟩,⟨184,S10184,G10184⟩,⟨184,S20184,G20184⟩,⟨187,S187,G187⟩],[],[],⟨157,[4],0⟩⟩,[],[]⟩
def B183(r:((St×Ca)×(LI×(LN×Int)))->Option (LLB×Int))(x:((St×Ca)×(LI×(LN×Int)))):Option (LLB×Int):=(if 0<=x.2.2.2/\x.2.2.2<(x.2.2.1.length:Int)then bif decide ((x.2.2.1.getD x.2.2.2.toNat nd0).1=0)then bif decide ((x.2.2.1.getD x.2.2.2.toNat nd0).1=0)then(G86 (x.1,(x.2.1,(decide ((x.2.2.1.getD x.2.2.2.toNat nd0).1=0))))).bind fun v0=>some (v0,(i64.wrap (x.2.2.2+1)))else bif decide ((x.2.2.1.getD x.2.2.2.toNat nd0).1=2)then if 0<=(x.2.2.1.getD x.2.2.2.toNat nd0).2.1/\(x.2.2.1.getD x.2.2.2.toNat nd0).2.1<(x.1.1.2.length:Int)then(G10184 (x.1,(x.2.1,(x.1,((x.1.1.2.getD ((x.2.2.1.getD x.2.2.2.toNat nd0).2.1).toNat rl0),(x.2.2.1.getD x.2.2.2.toNat nd0)))))).bind fun v0=>some (v0,(i64.wrap (x.2.2.2+1)))else none else bif decide ((x.2.2.1.getD x.2.2.2.toNat nd0).1=3)then(G20184 (x.1,(x.2.1,(x.2.2.1.getD x.2.2.2.toNat nd0)))).bind fun v0=>some (v0,(i64.wrap (x.2.2.2+1)))else bif decide ((x.2.2.1.getD x.2.2.2.toNat nd0).1=7)then(G142 (x.2.1,(x.2.2.1.getD x.2.2.2.toNat nd0).2.1)).bind fun v0=>(r (x.1,(v0,(x.2.2.1,(i64.wrap (x.2.2.2+1)))))).bind fun v1=>(G187 (x.1,(x.2.1,((x.2.2.1.getD x.2.2.2.toNat nd0).2.1,(v1.1,false))))).bind fun v2=>some (v2,v1.2)else bif decide ((x.2.2.1.getD x.2.2.2.toNat nd0).1=8)then(G142 (x.2.1,(x.2.2.1.getD x.2.2.2.toNat nd0).2.1)).bind fun v0=>(r (x.1,(v0,(x.2.2.1,(i64.wrap (x.2.2.2+1)))))).bind fun v1=>(G187 (x.1,(x.2.1,((x.2.2.1.getD x.2.2.2.toNat nd0).2.1,(v1.1,true))))).bind fun v2=>(G81 (x.1,(x.2.1,v2))).bind fun v3=>some (v3,v1.2)else(r (x.1,(x.2.1,(x.2.2.1,(i64.wrap (x.2.2.2+1)))))).bind fun v0=>(r (x.1,(x.2.1,(x.2.2.1,v0.2)))).bind fun v1=>bif decide ((x.2.2.1.getD x.2.2.2.toNat nd0).1=4)then(G10082 (v0.1,(v1.1,()))).bind fun v2=>some (v2,v1.2)else bif decide ((x.2.2.1.getD x.2.2.2.toNat nd0).1=5)then(G20082 (v0.1,(v1.1,()))).bind fun v2=>some (v2,v1.2)else(G30082 (v0.1,(v1.1,()))).bind fun v2=>(G81 (x.1,(x.2.1,v2))).bind fun v3=>some (v3,v1.2)else bif decide ((x.2.2.1.getD x.2.2.2.toNat nd0).1=1)then(G86 (x.1,(x.2.1,(decide ((x.2.2.1.getD x.2.2.2.toNat nd0).1=0))))).bind fun v0=>some (v0,(i64.wrap (x.2.2.2+1)))else bif decide ((x.2.2.1.getD x.2.2.2.toNat nd0).1=2)then if 0<=(x.2.2.1.getD x.2.2.2.toNat nd0).2.1/\(x.2.2.1.getD x.2.2.2.toNat nd0).2.1<(x.1.1.2.length:Int)then(G10184 (x.1,(x.2.1,(x.1,((x.1.1.2.getD ((x.2.2.1.getD x.2.2.2.toNat nd0).2.1).toNat rl0),(x.2.2.1.getD x.2.2.2.toNat nd0)))))).bind fun v0=>some (v0,(i64.wrap (x.2.2.2+1)))else none else bif decide ((x.2.2.1.getD x.2.2.2.toNat nd0).1=3)then(G20184 (x.1,(x.2.1,(x.2.2.1.getD x.2.2.2.toNat nd0)))).bind fun v0=>some (v0,(i64.wrap (x.2.2.2+1)))else bif decide ((x.2.2.1.getD x.2.2.2.toNat nd0).1=7)then(G142 (x.2.1,(x.2.2.1.getD x.2.2.2.toNat nd0).2.1)).bind fun v0=>(r (x.1,(v0,(x.2.2.1,(i64.wrap (x.2.2.2+1)))))).bind fun v1=>(G187 (x.1,(x.2.1,((x.2.2.1.getD x.2.2.2.toNat nd0).2.1,(v1.1,false))))).bind fun v2=>some (v2,v1.2)else bif decide ((x.2.2.1.getD x.2.2.2.toNat nd0).1=8)then(G142 (x.2.1,(x.2.2.1.getD x.2.2.2.toNat nd0).2.1)).bind fun v0=>(r (x.1,(v0,(x.2.2.1,(i64.wrap (x.2.2.2+1)))))).bind fun v1=>(G187 (x.1,(x.2.1,((x.2.2.1.getD x.2.2.2.toNat nd0).2.1,(v1.1,true))))).bind fun v2=>(G81 (x.1,(x.2.1,v2))).bind fun v3=>some (v3,v1.2)else(r (x.1,(x.2.1,(x.2.2.1,(i64.wrap (x.2.2.2+1)))))).bind fun v0=>(r (x.1,(x.2.1,(x.2.2.1,v0.2)))).bind fun v1=>bif decide ((x.2.2.1.getD x.2.2.2.toNat nd0).1=4)then(G10082 (v0.1,(v1.1,()))).bind fun v2=>some (v2,v1.2)else bif decide ((x.2.2.1.getD x.2.2.2.toNat nd0).1=5)then(G20082 (v0.1,(v1.1,()))).bind fun v2=>some (v2,v1.2)else(G30082 (v0.1,(v1.1,()))).bind fun v2=>(G81 (x.1,(x.2.1,v2))).bind fun v3=>some (v3,v1.2)else none)
def R183:Nat->((St×Ca)×(LI×(LN×Int)))->Option (LLB×Int)
 |0,_=>none
 |n+1,x=>B183 (R183 n) x
def G183(x:((St×Ca)×(LI×(LN×Int)))):Option (LLB×Int):=R183 4096 x
theorem t183:(fun r=>tfn (E183 r) f183 S183)=B183:=by kernel_rfl
theorem a183:Ad prog 183=true:=by kernel_rfl
theorem b183{r:(PT S183.ps).T->Option (RT S183.rs).T}(h:FT prog 183 S183 r):FT prog 183 S183 (B183 r):=Av (E:=E183 r) As (Ab a183 h (Ab a142 c142 (Ab a86 c86 (Ab a185 c185 (Ab a186 c186 (Ab a81 c81 (Ab a188 c188 (Ab a189 c189 (Ab a190 c190 (Ab a10082 c10082 (Ab a20082 c20082 (Ab a30082 c30082 (Ab a10184 c10184 (Ab a20184 c20184 (Ab a187 c187 Af))))))))))))))) Ae Ag Au func183 (by kernel_rfl) (congrFun t183 r)
theorem r183: ∀n,FT prog 183 S183 (R183 n)
 |0=>fun _ _ h=>by cases h
 |n+1=>b183 (r183 n)
theorem c183:FT prog 183 S183 G183:=r183 4096
def S73:Sig:=⟨[(false,(.clo 1000109 (.ptr yF))),(false,yL),(false,(.sl yN))],[(false,2,(.sl (.sl .bool)))]⟩
def E73:AF:=⟨⟨TB,[⟨183,S183,G183⟩],[],[],⟨17,[],0⟩⟩,[],[]⟩
def G73(x:((St×Ca)×(LI×LN))):Option LLB:=((G183 (x.1,(x.2.1,(x.2.2,0)))).bind fun v0=>some v0.1)
theorem t73:tfn E73 f73 S73=G73:=by kernel_rfl
theorem c73:FT prog 73 S73 G73:=Av As (Ab a183 c183 Af) Ae Ag Au func73 (by kernel_rfl) t73
theorem a73:Ad prog 73=true:=by kernel_rfl
def S57:Sig:=⟨[(false,(.ptr ySt)),(false,yL),(false,(.sl yN))],[(false,2,(.sl (.sl .bool))),(false,0,yI)]⟩
def E57:AF:=⟨⟨TB,[⟨68,S68,G68⟩,⟨72,S72,G72⟩,⟨73,S73,G73⟩],[],[⟨74,S74,G74⟩],⟨32,[],0⟩⟩,[],[]⟩
def G57(x:(St×(LI×LN))):Option (LLB×Int):=((G68 (x.1,(x.2.1,(x.2.2::([]:(List LN)))))).bind fun v0=>bif !decide (v0=0)then some ([],v0)else(G72 (x.1,(x.2.1,(x.2.2::([]:(List LN)))))).bind fun v1=>bif !decide (v1=0)then some ([],v1)else(G74 x.1).bind fun v2=>bif v2.1 then(G73 (v2.2,(x.2.1,x.2.2))).bind fun v3=>some (v3,0)else none)
theorem t57:tfn E57 f57 S57=G57:=by kernel_rfl
theorem c57:FT prog 57 S57 G57:=Av As (Ab a68 c68 (Ab a72 c72 (Ab a73 c73 Af))) Ae (X1 a74 c74 Ag) Au func57 (by kernel_rfl) t57
theorem a57:Ad prog 57=true:=by kernel_rfl
def S20:Sig:=⟨[(false,yL),(false,yL)],[(false,0,.bool)]⟩
def E20:AF:=⟨⟨TB,[],[],[],⟨26,[],0⟩⟩,[(4,[5],[])],[]⟩
def G20(x:(LI×LI)):Option Bool:=(bif !decide ((x.1.length:Int)=(x.2.length:Int))then some false else(Am (fun(v0:Int)=>bif decide (v0<(x.1.length:Int))then if 0<=v0/\v0<(x.1.length:Int)then if 0<=v0/\v0<(x.2.length:Int)then bif !decide ((x.1.getD v0.toNat 0)=(x.2.getD v0.toNat 0))then AV (some false)else some (LO.next (i64.wrap (v0+1)))else none else none else some (LO.brk 0 v0)) 0).bind (LO.fin fun i0 v0=>if i0=0 then some true else none))
theorem t20:tfn E20 f20 S20=G20:=by kernel_rfl
theorem c20:FT prog 20 S20 G20:=Av As Af Ae Ag Au func20 (by kernel_rfl) t20
theorem a20:Ad prog 20=true:=by kernel_rfl
def S18:Sig:=⟨[(false,(.sl yL)),(false,(.sl yL))],[(false,0,.bool)]⟩
def E18:AF:=⟨⟨TB,[⟨20,S20,G20⟩],[],[],⟨27,[],0⟩⟩,[(4,[5],[])],[]⟩
def G18(x:(LL×LL)):Option Bool:=(bif !decide ((x.1.length:Int)=(x.2.length:Int))then some false else(Am (fun(v0:Int)=>bif decide (v0<(x.1.length:Int))then if 0<=v0/\v0<(x.1.length:Int)then if 0<=v0/\v0<(x.2.length:Int)then(G20 ((x.1.getD v0.toNat []),(x.2.getD v0.toNat []))).bind fun v1=>bif !v1 then AV (some false)else some (LO.next (i64.wrap (v0+1)))else none else none else some (LO.brk 0 v0)) 0).bind (LO.fin fun i0 v0=>if i0=0 then some true else none))
theorem t18:tfn E18 f18 S18=G18:=by kernel_rfl
theorem c18:FT prog 18 S18 G18:=Av As (Ab a20 c20 Af) Ae Ag Au func18 (by kernel_rfl) t18
theorem a18:Ad prog 18=true:=by kernel_rfl
def S126:Sig:=⟨[(true,yC),(true,yC)],[(false,0,.bool)]⟩
def E126:AF:=⟨⟨TB,[⟨20,S20,G20⟩,⟨18,S18,G18⟩],[],[],⟨34,[2,3],0⟩⟩,[],[]⟩
def G126(x:(Ca×Ca)):Option Bool:=(bif !decide (x.1.1=x.2.1)then some false else(G20 (x.1.2.1,x.2.2.1)).bind fun v0=>bif !v0 then some false else(G20 (x.1.2.2.1,x.2.2.2.1)).bind fun v1=>bif !v1 then some false else(G20 (x.1.2.2.2.1,x.2.2.2.2.1)).bind fun v2=>bif !v2 then some false else(G18 (x.1.2.2.2.2,x.2.2.2.2.2)).bind fun v3=>bif !v3 then some false else some true)
theorem t126:tfn E126 f126 S126=G126:=by kernel_rfl
theorem c126:FT prog 126 S126 G126:=Av As (Ab a20 c20 (Ab a18 c18 Af)) Ae Ag Au func126 (by kernel_rfl) t126
theorem a126:Ad prog 126=true:=by kernel_rfl
def S102:Sig:=⟨[(true,ySF),(true,ySF)],[(false,0,.bool)]⟩
def E102:AF:=⟨⟨TB,[⟨20,S20,G20⟩,⟨18,S18,G18⟩,⟨126,S126,G126⟩],[],[],⟨23,[2,3],0⟩⟩,[],[]⟩
def G102(x:(SF×SF)):Option Bool:=((G126 ((x.1.1,(x.1.2.1,(x.1.2.2.1,(x.1.2.2.2.1,x.1.2.2.2.2.1)))),(x.2.1,(x.2.2.1,(x.2.2.2.1,(x.2.2.2.2.1,x.2.2.2.2.2.1)))))).bind fun v0=>bif !v0 then some false else(G20 (x.1.2.2.2.2.2.1,x.2.2.2.2.2.2.1)).bind fun v1=>bif !v1 then some false else(G18 (x.1.2.2.2.2.2.2,x.2.2.2.2.2.2.2)).bind fun v2=>bif !v2 then some false else some true)
theorem t102:tfn E102 f102 S102=G102:=by kernel_rfl
theorem c102:FT prog 102 S102 G102:=Av As (Ab a20 c20 (Ab a18 c18 (Ab a126 c126 Af))) Ae Ag Au func102 (by kernel_rfl) t102
theorem a102:Ad prog 102=true:=by kernel_rfl
def S59:Sig:=⟨[(false,(.sl ySF)),(false,(.sl ySF))],[(false,0,.bool)]⟩
def E59:AF:=⟨⟨TB,[⟨102,S102,G102⟩],[],[],⟨27,[],0⟩⟩,[(4,[5],[])],[]⟩
def G59(x:(LS×LS)):Option Bool:=(bif !decide ((x.1.length:Int)=(x.2.length:Int))then some false else(Am (fun(v0:Int)=>bif decide (v0<(x.1.length:Int))then if 0<=v0/\v0<(x.1.length:Int)then if 0<=v0/\v0<(x.2.length:Int)then(G102 (((x.1.getD v0.toNat sf0).1,((x.1.getD v0.toNat sf0).2.1,((x.1.getD v0.toNat sf0).2.2.1,((x.1.getD v0.toNat sf0).2.2.2.1,((x.1.getD v0.toNat sf0).2.2.2.2.1,((x.1.getD v0.toNat sf0).2.2.2.2.2.1,(x.1.getD v0.toNat sf0).2.2.2.2.2.2)))))),((x.2.getD v0.toNat sf0).1,((x.2.getD v0.toNat sf0).2.1,((x.2.getD v0.toNat sf0).2.2.1,((x.2.getD v0.toNat sf0).2.2.2.1,((x.2.getD v0.toNat sf0).2.2.2.2.1,((x.2.getD v0.toNat sf0).2.2.2.2.2.1,(x.2.getD v0.toNat sf0).2.2.2.2.2.2)))))))).bind fun v1=>bif !v1 then AV (some false)else some (LO.next (i64.wrap (v0+1)))else none else none else some (LO.brk 0 v0)) 0).bind (LO.fin fun i0 v0=>if i0=0 then some true else none))
theorem t59:tfn E59 f59 S59=G59:=by kernel_rfl
theorem c59:FT prog 59 S59 G59:=Av As (Ab a102 c102 Af) Ae Ag Au func59 (by kernel_rfl) t59
theorem a59:Ad prog 59=true:=by kernel_rfl
def S38:Sig:=⟨[(true,yR),(true,yR)],[(false,0,.bool)]⟩
def E38:AF:=⟨⟨TB,[⟨20,S20,G20⟩,⟨18,S18,G18⟩],[],[],⟨17,[2,3],0⟩⟩,[],[]⟩
def G38(x:(Rl×Rl)):Option Bool:=((G20 (x.1.1,x.2.1)).bind fun v0=>bif !v0 then some false else(G18 (x.1.2,x.2.2)).bind fun v1=>bif !v1 then some false else some true)
theorem t38:tfn E38 f38 S38=G38:=by kernel_rfl
theorem c38:FT prog 38 S38 G38:=Av As (Ab a20 c20 (Ab a18 c18 Af)) Ae Ag Au func38 (by kernel_rfl) t38
theorem a38:Ad prog 38=true:=by kernel_rfl
def S60:Sig:=⟨[(false,(.sl yR)),(false,(.sl yR))],[(false,0,.bool)]⟩
def E60:AF:=⟨⟨TB,[⟨38,S38,G38⟩],[],[],⟨27,[],0⟩⟩,[(4,[5],[])],[]⟩
def G60(x:(LR×LR)):Option Bool:=(bif !decide ((x.1.length:Int)=(x.2.length:Int))then some false else(Am (fun(v0:Int)=>bif decide (v0<(x.1.length:Int))then if 0<=v0/\v0<(x.1.length:Int)then if 0<=v0/\v0<(x.2.length:Int)then(G38 (((x.1.getD v0.toNat rl0).1,(x.1.getD v0.toNat rl0).2),((x.2.getD v0.toNat rl0).1,(x.2.getD v0.toNat rl0).2))).bind fun v1=>bif !v1 then AV (some false)else some (LO.next (i64.wrap (v0+1)))else none else none else some (LO.brk 0 v0)) 0).bind (LO.fin fun i0 v0=>if i0=0 then some true else none))
theorem t60:tfn E60 f60 S60=G60:=by kernel_rfl
theorem c60:FT prog 60 S60 G60:=Av As (Ab a38 c38 Af) Ae Ag Au func60 (by kernel_rfl) t60
theorem a60:Ad prog 60=true:=by kernel_rfl
def S19:Sig:=⟨[(true,ySt),(true,ySt)],[(false,0,.bool)]⟩
def E19:AF:=⟨⟨TB,[⟨59,S59,G59⟩,⟨60,S60,G60⟩],[],[],⟨17,[2,3],0⟩⟩,[],[]⟩
def G19(x:(St×St)):Option Bool:=((G59 (x.1.1,x.2.1)).bind fun v0=>bif !v0 then some false else(G60 (x.1.2,x.2.2)).bind fun v1=>bif !v1 then some false else some true)
theorem t19:tfn E19 f19 S19=G19:=by kernel_rfl
theorem c19:FT prog 19 S19 G19:=Av As (Ab a59 c59 (Ab a60 c60 Af)) Ae Ag Au func19 (by kernel_rfl) t19
theorem a19:Ad prog 19=true:=by kernel_rfl
def S61:Sig:=⟨[(true,yN),(true,yN)],[(false,0,.bool)]⟩
def E61:AF:=⟨⟨TB,[⟨20,S20,G20⟩],[],[],⟨21,[2,3],0⟩⟩,[],[]⟩
def G61(x:(Nd×Nd)):Option Bool:=(bif !decide (x.1.1=x.2.1)then some false else bif !decide (x.1.2.1=x.2.2.1)then some false else(G20 (x.1.2.2,x.2.2.2)).bind fun v0=>bif !v0 then some false else some true)
theorem t61:tfn E61 f61 S61=G61:=by kernel_rfl
theorem c61:FT prog 61 S61 G61:=Av As (Ab a20 c20 Af) Ae Ag Au func61 (by kernel_rfl) t61
theorem a61:Ad prog 61=true:=by kernel_rfl
def S21:Sig:=⟨[(false,(.sl yN)),(false,(.sl yN))],[(false,0,.bool)]⟩
def E21:AF:=⟨⟨TB,[⟨61,S61,G61⟩],[],[],⟨27,[],0⟩⟩,[(4,[5],[])],[]⟩
def G21(x:(LN×LN)):Option Bool:=(bif !decide ((x.1.length:Int)=(x.2.length:Int))then some false else(Am (fun(v0:Int)=>bif decide (v0<(x.1.length:Int))then if 0<=v0/\v0<(x.1.length:Int)then if 0<=v0/\v0<(x.2.length:Int)then(G61 (((x.1.getD v0.toNat nd0).1,((x.1.getD v0.toNat nd0).2.1,(x.1.getD v0.toNat nd0).2.2)),((x.2.getD v0.toNat nd0).1,((x.2.getD v0.toNat nd0).2.1,(x.2.getD v0.toNat nd0).2.2)))).bind fun v1=>bif !v1 then AV (some false)else some (LO.next (i64.wrap (v0+1)))else none else none else some (LO.brk 0 v0)) 0).bind (LO.fin fun i0 v0=>if i0=0 then some true else none))
theorem t21:tfn E21 f21 S21=G21:=by kernel_rfl
theorem c21:FT prog 21 S21 G21:=Av As (Ab a61 c61 Af) Ae Ag Au func21 (by kernel_rfl) t21
theorem a21:Ad prog 21=true:=by kernel_rfl
def S3:Sig:=⟨[(true,ySt),(false,yL),(false,(.sl yN))],[(false,0,.bool)]⟩
end
end Go.Ve.D

