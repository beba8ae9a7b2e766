/- What the functions compute (printed by a program), and that they do. -/
import Derived.Test.YtlggjlgcmilmhaaUcs
namespace Go.Ve.D
open Go Go.Ve Go.Proofs Go.Proofs.Try
set_option maxRecDepth 100000
open IntKind
noncomputable section
def S6:Sig:=⟨[(false,(.sl (.int .u8)))],[(true,0,yC),(false,1,yL)]⟩
def E6:A5:=⟨⟨TB,[⟨23,S23,G23⟩],[],[],⟨14,[3000004],0⟩,[⟨24,S24,G24⟩,⟨25,S25,G25⟩]⟩,[],[]⟩
def G6(x:LI):Option (Ca×LI):=((G23 x).bind λv0=>(G24 (4,12) v0).bind λv1=>(G25 v1.1 v1.2).bind λv2=>some (v1.1,v2.1))
theorem t6:tfn E6 f6 S6=G6:=by kernel_rfl
theorem c6:FT prog 6 S6 G6:=AU AH (Ac a23 c23 Am) Ak An mixed func6 (by kernel_rfl) t6 (A7 a24 rfl c24 (A7 a25 rfl c25 Cx))
theorem a6:Ae prog 6=true:=by kernel_rfl
def S7:Sig:=⟨[(true,yC),(false,yL)],[(false,1,yL),(false,0,yI)]⟩
def E7:A5:=⟨⟨TB,[⟨26,S26,G26⟩,⟨27,S27,G27⟩,⟨28,S28,G28⟩],[],[],⟨16,[2],0⟩,[]⟩,[],[]⟩
def G7(x:(Ca×LI)):Option (LI×Int):=((G26 (x.1,(x.2:: []))).bind λv0=>bif !decide (v0=0)then some ([],v0)else(G27 x.1).bind λv1=>(G28 (v1,x.2)).bind λv2=>some (v2,0))
theorem t7:tfn E7 f7 S7=G7:=by kernel_rfl
theorem c7:FT prog 7 S7 G7:=AU AH (Ac a26 c26 (Ac a27 c27 (Ac a28 c28 Am))) Ak An mixed func7 (by kernel_rfl) t7
theorem a7:Ae prog 7=true:=by kernel_rfl
def S8:Sig:=⟨[(true,yC),(false,yL)],[(false,1,yL),(false,0,yI)]⟩
def E8:A5:=⟨⟨TB,[⟨29,S29,G29⟩,⟨30,S30,G30⟩],[],[],⟨16,[2],0⟩,[]⟩,[],[]⟩
def G8(x:(Ca×LI)):Option (LI×Int):=((G29 (x.1,x.2,[])).bind λv0=>bif !decide (v0=0)then some ([],v0)else(G30 x).bind λv1=>some (v1,0))
theorem t8:tfn E8 f8 S8=G8:=by kernel_rfl
theorem c8:FT prog 8 S8 G8:=AU AH (Ac a29 c29 (Ac a30 c30 Am)) Ak An mixed func8 (by kernel_rfl) t8
theorem a8:Ae prog 8=true:=by kernel_rfl
def S10:Sig:=⟨[(true,yC),(false,yL)],[(false,1,yL),(false,0,yI)]⟩
def E10:A5:=⟨⟨TB,[⟨26,S26,G26⟩,⟨27,S27,G27⟩,⟨31,S31,G31⟩],[],[],⟨16,[2],0⟩,[]⟩,[],[]⟩
def G10(x:(Ca×LI)):Option (LI×Int):=((G26 (x.1,(x.2:: []))).bind λv0=>bif !decide (v0=0)then some ([],v0)else(G27 x.1).bind λv1=>(G31 (v1,x.2)).bind λv2=>some (v2,0))
theorem t10:tfn E10 f10 S10=G10:=by kernel_rfl
theorem c10:FT prog 10 S10 G10:=AU AH (Ac a26 c26 (Ac a27 c27 (Ac a31 c31 Am))) Ak An mixed func10 (by kernel_rfl) t10
theorem a10:Ae prog 10=true:=by kernel_rfl
def S11:Sig:=⟨[(false,yL),(false,yI)],[(false,0,.bool)]⟩
def E11:A5:=⟨⟨TB,[],[],[],⟨18,[],0⟩,[]⟩,[(2,[5],[]),(2,[1000002,5],[])],[]⟩
def G11(x:(LI×Int)):Option Bool:=((Ap (fun(v0:Int)=>bif decide (v0<x.1.length)then if 0<=v0/\v0<x.1.length then bif decide ((x.1.getD v0.toNat 0)=x.2)then BO (some true)else some (LO.next (i64.wrap (v0+1)))else none else some (LO.brk 0 v0)) 0).bind (LO.fin λi0 v0=>if i0=0 then some false else none))
theorem t11:tfn E11 f11 S11=G11:=by kernel_rfl
theorem c11:FT prog 11 S11 G11:=AU AH Am Ak An mixed func11 (by kernel_rfl) t11
theorem a11:Ae prog 11=true:=by kernel_rfl
def S82:Sig:=⟨[(false,yI),(false,yI),(false,(.ptr (.ptr yC))),(false,(.ptr yL))],[(false,0,yI)]⟩
def E82:A5:=⟨⟨TB,[⟨43,S43,G43⟩],[],[],⟨14,[],0⟩,[]⟩,[],[]⟩
def G82(x:(Int×Int×Ca×LI)):Option Int:=(if 0<=x.2.1/\x.2.1<x.2.2.2.length then(G43 (x.2.2.1,x.1,x.2.2.2.getD x.2.1.toNat 0)).bind λv0=>some v0 else none)
theorem t82:tfn E82 f82 S82=G82:=by kernel_rfl
theorem c82:FT prog 82 S82 G82:=AU AH (Ac a43 c43 Am) Ak An mixed func82 (by kernel_rfl) t82
theorem a82:Ae prog 82=true:=by kernel_rfl
def S10081:Sig:=⟨[(false,yL),(false,yI),(false,(.clo 82 (.pair (.ptr (.ptr yC)) (.ptr yL))))],[(false,0,.bool)]⟩
def E10081:A5:=⟨⟨TB,[⟨82,S82,G82⟩],[],[],⟨49,[],0⟩,[]⟩,[(2,[15],[2000013,2000014]),(2,[1000002,13,14,15],[]),(5,[25],[2000008,2000013,2000014,2000015,2000023,2000024]),(5,[1000005,8,13,14,15,23,24,25],[]),(9,[11,12],[2000008,2000010,2000013,2000014,2000015,2000023,2000024,2000025]),(9,[1000009,8,10,11,12,13,14,15,23,24,25],[])],[]⟩
def G10081(x:(LI×Int×Ca×LI)):Option Bool:=((Ap (fun(v0:Int)=>bif decide (v0<x.1.length)then if 0<=v0/\v0<x.1.length then if(0<=(i64.wrap (v0+1)))/\(((i64.wrap (v0+1))<=(x.1.length:Int))/\((x.1.length:Int)<=(x.1.length:Int)))then(Ap (fun(v1:Int)=>bif decide (v1<(x.1.drop (i64.wrap (v0+1)).toNat).length)then if 0<=v1/\v1<(x.1.drop (i64.wrap (v0+1)).toNat).length then(Ap (fun(v2:Bool×Int)=>Option.bind (bif decide (v2.2<x.2.1)then some v2.1 else some false) (fun(v3:Bool)=>bif v3 then(G82 (x.1.getD v0.toNat 0,v2.2,x.2.2)).bind λv4=>(G82 ((x.1.drop (i64.wrap (v0+1)).toNat).getD v1.toNat 0,v2.2,x.2.2)).bind λv5=>some (LO.next (decide (v4=v5),i64.wrap (v2.2+1)))else some (LO.brk 4 v2))) (true,0)).bind (LO.fin λi2 v2=>if i2=4 then bif v2.1 then BO (BO (some false))else some (LO.next (i64.wrap (v1+1)))else none)else none else some (LO.brk 2 v1)) 0).bind (LO.fin λi1 v1=>if i1=2 then some (LO.next (i64.wrap (v0+1)))else none)else none else none else some (LO.brk 0 v0)) 0).bind (LO.fin λi0 v0=>if i0=0 then some true else none))
theorem t10081:tfn E10081 f81 S10081=G10081:=by kernel_rfl
theorem c10081:FT prog 81 S10081 G10081:=AU AH (Ac a82 c82 Am) Ak An mixed func81 (by kernel_rfl) t10081
theorem a10081:Ae prog 81=true:=by kernel_rfl
def S60:Sig:=⟨[(false,(.ptr yC)),(false,yI),(false,yL)],[(false,0,.bool)]⟩
def E60:A5:=⟨⟨TB,[⟨64,S64,G64⟩,⟨82,S82,G82⟩,⟨81,S10081,G10081⟩],[],[],⟨25,[3,5],0⟩,[]⟩,[(2,[7],[]),(2,[1000002,7],[])],[]⟩
def G60(x:(Ca×Int×LI)):Option Bool:=((Ap (fun(v0:Int)=>bif decide (v0<x.1.1)then(G64 (x.1,v0,x.2.1)).bind λv1=>(G10081 (v1,(x.2.2.length:Int),x.1,x.2.2)).bind λv2=>bif !v2 then BO (some false)else some (LO.next (i64.wrap (v0+1)))else some (LO.brk 0 v0)) 0).bind (LO.fin λi0 v0=>if i0=0 then some true else none))
theorem t60:tfn E60 f60 S60=G60:=by kernel_rfl
theorem c60:FT prog 60 S60 G60:=AU AH (Ac a64 c64 (Ac a82 c82 (Ac a10081 c10081 Am))) Ak An mixed func60 (by kernel_rfl) t60
theorem a60:Ae prog 60=true:=by kernel_rfl
def S34:Sig:=⟨[(false,(.ptr yC)),(false,yI)],[(false,0,.bool)]⟩
def E34:A5:=⟨⟨TB,[⟨60,S60,G60⟩],[],[],⟨16,[],0⟩,[]⟩,[],[]⟩
def G34(x:(Ca×Int)):Option Bool:=(if 0<=x.2/\x.2<x.1.2.1.length then(G60 (x.1,x.1.2.1.getD x.2.toNat 0,(x.2:: []))).bind λv0=>some v0 else none)
theorem t34:tfn E34 f34 S34=G34:=by kernel_rfl
theorem c34:FT prog 34 S34 G34:=AU AH (Ac a60 c60 Am) Ak An mixed func34 (by kernel_rfl) t34
theorem a34:Ae prog 34=true:=by kernel_rfl
def S83:Sig:=⟨[(false,yI),(false,yI),(false,(.ptr (.ptr yC))),(false,(.ptr yL))],[(false,0,yI)]⟩
def E83:A5:=⟨⟨TB,[⟨43,S43,G43⟩],[],[],⟨14,[],0⟩,[]⟩,[],[]⟩
def G83(x:(Int×Int×Ca×LI)):Option Int:=(if 0<=x.2.1/\x.2.1<x.2.2.2.length then(G43 (x.2.2.1,x.2.2.2.getD x.2.1.toNat 0,x.1)).bind λv0=>some v0 else none)
theorem t83:tfn E83 f83 S83=G83:=by kernel_rfl
theorem c83:FT prog 83 S83 G83:=AU AH (Ac a43 c43 Am) Ak An mixed func83 (by kernel_rfl) t83
theorem a83:Ae prog 83=true:=by kernel_rfl
def S20081:Sig:=⟨[(false,yL),(false,yI),(false,(.clo 83 (.pair (.ptr (.ptr yC)) (.ptr yL))))],[(false,0,.bool)]⟩
def E20081:A5:=⟨⟨TB,[⟨83,S83,G83⟩],[],[],⟨49,[],0⟩,[]⟩,[(2,[15],[2000013,2000014]),(2,[1000002,13,14,15],[]),(5,[25],[2000008,2000013,2000014,2000015,2000023,2000024]),(5,[1000005,8,13,14,15,23,24,25],[]),(9,[11,12],[2000008,2000010,2000013,2000014,2000015,2000023,2000024,2000025]),(9,[1000009,8,10,11,12,13,14,15,23,24,25],[])],[]⟩
def G20081(x:(LI×Int×Ca×LI)):Option Bool:=((Ap (fun(v0:Int)=>bif decide (v0<x.1.length)then if 0<=v0/\v0<x.1.length then if(0<=(i64.wrap (v0+1)))/\(((i64.wrap (v0+1))<=(x.1.length:Int))/\((x.1.length:Int)<=(x.1.length:Int)))then(Ap (fun(v1:Int)=>bif decide (v1<(x.1.drop (i64.wrap (v0+1)).toNat).length)then if 0<=v1/\v1<(x.1.drop (i64.wrap (v0+1)).toNat).length then(Ap (fun(v2:Bool×Int)=>Option.bind (bif decide (v2.2<x.2.1)then some v2.1 else some false) (fun(v3:Bool)=>bif v3 then(G83 (x.1.getD v0.toNat 0,v2.2,x.2.2)).bind λv4=>(G83 ((x.1.drop (i64.wrap (v0+1)).toNat).getD v1.toNat 0,v2.2,x.2.2)).bind λv5=>some (LO.next (decide (v4=v5),i64.wrap (v2.2+1)))else some (LO.brk 4 v2))) (true,0)).bind (LO.fin λi2 v2=>if i2=4 then bif v2.1 then BO (BO (some false))else some (LO.next (i64.wrap (v1+1)))else none)else none else some (LO.brk 2 v1)) 0).bind (LO.fin λi1 v1=>if i1=2 then some (LO.next (i64.wrap (v0+1)))else none)else none else none else some (LO.brk 0 v0)) 0).bind (LO.fin λi0 v0=>if i0=0 then some true else none))
theorem t20081:tfn E20081 f81 S20081=G20081:=by kernel_rfl
theorem c20081:FT prog 81 S20081 G20081:=AU AH (Ac a83 c83 Am) Ak An mixed func81 (by kernel_rfl) t20081
theorem a20081:Ae prog 81=true:=by kernel_rfl
def S61:Sig:=⟨[(false,(.ptr yC)),(false,yI),(false,yL)],[(false,0,.bool)]⟩
def E61:A5:=⟨⟨TB,[⟨64,S64,G64⟩,⟨81,S10081,G10081⟩,⟨83,S83,G83⟩,⟨81,S20081,G20081⟩],[],[],⟨25,[3,5],0⟩,[]⟩,[(2,[7],[]),(2,[1000002,7],[])],[]⟩
def G61(x:(Ca×Int×LI)):Option Bool:=((Ap (fun(v0:Int)=>bif decide (v0<x.1.1)then(G64 (x.1,x.2.1,v0)).bind λv1=>(G20081 (v1,(x.2.2.length:Int),x.1,x.2.2)).bind λv2=>bif !v2 then BO (some false)else some (LO.next (i64.wrap (v0+1)))else some (LO.brk 0 v0)) 0).bind (LO.fin λi0 v0=>if i0=0 then some true else none))
theorem t61:tfn E61 f61 S61=G61:=by kernel_rfl
theorem c61:FT prog 61 S61 G61:=AU AH (Ac a64 c64 (Ac a10081 c10081 (Ac a83 c83 (Ac a20081 c20081 Am)))) Ak An mixed func61 (by kernel_rfl) t61
theorem a61:Ae prog 61=true:=by kernel_rfl
def S35:Sig:=⟨[(false,(.ptr yC)),(false,yI)],[(false,0,.bool)]⟩
def E35:A5:=⟨⟨TB,[⟨61,S61,G61⟩],[],[],⟨16,[],0⟩,[]⟩,[],[]⟩
def G35(x:(Ca×Int)):Option Bool:=(if 0<=x.2/\x.2<x.1.2.2.1.length then(G61 (x.1,x.1.2.2.1.getD x.2.toNat 0,(x.2:: []))).bind λv0=>some v0 else none)
theorem t35:tfn E35 f35 S35=G35:=by kernel_rfl
theorem c35:FT prog 35 S35 G35:=AU AH (Ac a61 c61 Am) Ak An mixed func35 (by kernel_rfl) t35
theorem a35:Ae prog 35=true:=by kernel_rfl
def S62:Sig:=⟨[(false,(.ptr yC)),(false,yI),(false,yI)],[(false,1,yL)]⟩
def E62:A5:=⟨⟨TB,[⟨43,S43,G43⟩,⟨64,S64,G64⟩],[],[],⟨44,[],0⟩,[]⟩,[(3,[7,26,28],[1,1007001,1026002,2000027]),(3,[1000003,7,26,27,28],[])],[]⟩
def G62(x:(Ca×Int×Int)):Option LI:=(if 0<=x.2.2/\x.2.2<x.1.2.2.1.length then if 0<=x.2.1/\x.2.1<x.1.2.2.1.length then(G64 (x.1,x.1.2.2.1.getD x.2.2.toNat 0,x.1.2.2.1.getD x.2.1.toNat 0)).bind λv0=>(Ap (fun(v1:Int×LI)=>bif decide (v1.1<v0.length)then if 0<=v1.1/\v1.1<v0.length then(G43 (x.1,x.2.2,v0.getD v1.1.toNat 0)).bind λv2=>bif decide (v2=x.2.1)then if(v1.2.length+((v0.getD v1.1.toNat 0):: []).length)<=17592186044416 then some (LO.next (i64.wrap (v1.1+1),v1.2++((v0.getD v1.1.toNat 0):: [])))else none else some (LO.next (i64.wrap (v1.1+1),v1.2))else none else some (LO.brk 0 v1)) (0,[])).bind (LO.fin λi1 v1=>if i1=0 then some v1.2 else none)else none else none)
theorem t62:tfn E62 f62 S62=G62:=by kernel_rfl
theorem c62:FT prog 62 S62 G62:=AU AH (Ac a43 c43 (Ac a64 c64 Am)) Ak An mixed func62 (by kernel_rfl) t62
theorem a62:Ae prog 62=true:=by kernel_rfl
def S36:Sig:=⟨[(false,(.ptr yC)),(false,yI)],[(false,1,yL)]⟩
def E36:A5:=⟨⟨TB,[⟨62,S62,G62⟩],[],[],⟨21,[],0⟩,[]⟩,[],[]⟩
def G36(x:(Ca×Int)):Option LI:=(if 0<=x.2/\x.2<x.1.2.1.length then if 0<=(x.1.2.1.getD x.2.toNat 0)/\(x.1.2.1.getD x.2.toNat 0)<(x.1.2.2.2.1.length:Int)then(G62 (x.1,x.1.2.2.2.1.getD (x.1.2.1.getD x.2.toNat 0).toNat 0,x.2)).bind λv0=>some v0 else none else none)
theorem t36:tfn E36 f36 S36=G36:=by kernel_rfl
theorem c36:FT prog 36 S36 G36:=AU AH (Ac a62 c62 Am) Ak An mixed func36 (by kernel_rfl) t36
theorem a36:Ae prog 36=true:=by kernel_rfl
def S63:Sig:=⟨[(false,(.ptr yC)),(false,yI),(false,yI)],[(false,1,yL)]⟩
def E63:A5:=⟨⟨TB,[⟨43,S43,G43⟩,⟨64,S64,G64⟩],[],[],⟨44,[],0⟩,[]⟩,[(3,[7,26,28],[1,1007001,1026002,2000027]),(3,[1000003,7,26,27,28],[])],[]⟩
def G63(x:(Ca×Int×Int)):Option LI:=(if 0<=x.2.1/\x.2.1<x.1.2.1.length then if 0<=x.2.2/\x.2.2<x.1.2.1.length then(G64 (x.1,x.1.2.1.getD x.2.1.toNat 0,x.1.2.1.getD x.2.2.toNat 0)).bind λv0=>(Ap (fun(v1:Int×LI)=>bif decide (v1.1<v0.length)then if 0<=v1.1/\v1.1<v0.length then(G43 (x.1,v0.getD v1.1.toNat 0,x.2.2)).bind λv2=>bif decide (v2=x.2.1)then if(v1.2.length+((v0.getD v1.1.toNat 0):: []).length)<=17592186044416 then some (LO.next (i64.wrap (v1.1+1),v1.2++((v0.getD v1.1.toNat 0):: [])))else none else some (LO.next (i64.wrap (v1.1+1),v1.2))else none else some (LO.brk 0 v1)) (0,[])).bind (LO.fin λi1 v1=>if i1=0 then some v1.2 else none)else none else none)
theorem t63:tfn E63 f63 S63=G63:=by kernel_rfl
theorem c63:FT prog 63 S63 G63:=AU AH (Ac a43 c43 (Ac a64 c64 Am)) Ak An mixed func63 (by kernel_rfl) t63
theorem a63:Ae prog 63=true:=by kernel_rfl
def S37:Sig:=⟨[(false,(.ptr yC)),(false,yI)],[(false,1,yL)]⟩
def E37:A5:=⟨⟨TB,[⟨63,S63,G63⟩],[],[],⟨21,[],0⟩,[]⟩,[],[]⟩
def G37(x:(Ca×Int)):Option LI:=(if 0<=x.2/\x.2<x.1.2.2.1.length then if 0<=(x.1.2.2.1.getD x.2.toNat 0)/\(x.1.2.2.1.getD x.2.toNat 0)<(x.1.2.2.2.1.length:Int)then(G63 (x.1,x.1.2.2.2.1.getD (x.1.2.2.1.getD x.2.toNat 0).toNat 0,x.2)).bind λv0=>some v0 else none else none)
theorem t37:tfn E37 f37 S37=G37:=by kernel_rfl
theorem c37:FT prog 37 S37 G37:=AU AH (Ac a63 c63 Am) Ak An mixed func37 (by kernel_rfl) t37
theorem a37:Ae prog 37=true:=by kernel_rfl
def S12:Sig:=⟨[(true,yC)],[(false,1,yL),(false,0,yI)]⟩
def E12:A5:=⟨⟨TB,[⟨33,S33,G33⟩,⟨32,S32,G32⟩,⟨34,S34,G34⟩,⟨35,S35,G35⟩,⟨36,S36,G36⟩,⟨37,S37,G37⟩,⟨38,S38,G38⟩],[],[],⟨53,[1],0⟩,[]⟩,[(5,[4,16],[1,1004001,2000015]),(5,[1000005,4,15,16],[]),(10,[4,37],[1,1004001,2000005,2000015,2000016,2000036]),(10,[1000010,4,5,15,16,36,37],[])],[]⟩
def G12(x:Ca):Option (LI×Int):=((G32 x).bind λv0=>bif !v0 then some ([],1)else(G33 x).bind λv1=>if(0<=v1)/\((v1<=v1)/\(((8*v1)<=281474976710656)/\(v1<=9223372036854775807)))then(Ap (fun(v2:Int×LI)=>bif decide (v2.1<(List.replicate v1.toNat (0:Int)).length)then(G34 (x,v2.1)).bind λv3=>(G35 (x,v2.1)).bind λv4=>(G36 (x,v2.1)).bind λv5=>(G37 (x,v2.1)).bind λv6=>(G38 (x,v2.1)).bind λv7=>(Ap (fun(v8:Int×LI)=>bif decide (v8.1<5)then if 0<=v8.1/\v8.1<5 then bif(v3::(v4::((decide (0<(v5.length:Int)))::((decide (0<(v6.length:Int)))::((decide (0<=v7)):: []))))).getD v8.1.toNat false then if 0<=v2.1/\v2.1<v8.2.length then if 0<=v8.1 then if 0<=v2.1/\v2.1<v8.2.length then some (LO.next (i64.wrap (v8.1+1),v8.2.set v2.1.toNat (i64.wrap ((v8.2.getD v2.1.toNat 0)+(AaI .i64 1 v8.1)))))else none else none else none else some (LO.next (i64.wrap (v8.1+1),v8.2))else none else some (LO.brk 2 v8)) (0,v2.2)).bind (LO.fin λi8 v8=>if i8=2 then some (LO.next (i64.wrap (v2.1+1),v8.2))else none)else some (LO.brk 0 v2)) (0,List.replicate v1.toNat (0:Int))).bind (LO.fin λi2 v2=>if i2=0 then some (v2.2,0)else none)else none)
theorem t12:tfn E12 f12 S12=G12:=by kernel_rfl
theorem c12:FT prog 12 S12 G12:=AU AH (Ac a33 c33 (Ac a32 c32 (Ac a34 c34 (Ac a35 c35 (Ac a36 c36 (Ac a37 c37 (Ac a38 c38 Am))))))) Ak An mixed func12 (by kernel_rfl) t12
theorem a12:Ae prog 12=true:=by kernel_rfl
def S3:Sig:=⟨[(false,(.sl (.int .u8)))],[(false,0,.bool)]⟩
def E3:A5:=⟨⟨TB,[⟨5,S5,G5⟩,⟨6,S6,G6⟩,⟨7,S7,G7⟩,⟨8,S8,G8⟩,⟨9,S9,G9⟩,⟨10,S10,G10⟩,⟨11,S11,G11⟩,⟨12,S12,G12⟩],[],[],⟨126,[43,70,105],0⟩,[]⟩,[(15,[3,4,5,9,13],[1003001,1004000,1005002,1009004]),(15,[1000015,3,4,5,9,13],[]),(23,[5,9,14,16],[1005002,1009004,1014006]),(23,[1000023,5,9,14,16],[])],[]⟩
def G3(x:LI):Option Bool:=((G5 x).bind λv0=>bif v0 then some true else(G6 x).bind λv1=>(G7 v1).bind λv2=>(G8 v1).bind λv3=>Option.bind (bif !decide (v2.2=v3.2)then some true else(G9 (v2.1,v3.1)).bind λv4=>some (!v4)) (fun(v4:Bool)=>bif v4 then some false else bif !decide (v2.2=0)then some (decide ((v2.1.length:Int)=0))else(G10 (v1.1,v2.1)).bind λv5=>(G7 (v1.1,v5.1)).bind λv6=>Option.bind (bif !decide ((i64.wrap (v5.2+v6.2))=0)then some true else(G9 (v6.1,v2.1)).bind λv7=>some (!v7)) (fun(v7:Bool)=>bif v7 then some false else(Ap (fun(v8:Int)=>bif decide (v8<v1.2.length)then if 0<=v8/\v8<v1.2.length then(G11 (v5.1,v1.2.getD v8.toNat 0)).bind λv9=>bif !v9 then BO (some false)else some (LO.next (i64.wrap (v8+1)))else none else some (LO.brk 0 v8)) 0).bind (LO.fin λi8 v8=>if i8=0 then(G12 v1.1).bind λv9=>bif !decide (v9.2=0)then some false else(Ap (fun(v10:Int)=>bif decide (v10<v9.1.length)then(G11 (v5.1,v10)).bind λv11=>Option.bind (bif v11 then(G11 (v2.1,v10)).bind λv12=>some v12 else some false) (fun(v12:Bool)=>if 0<=v10/\v10<v9.1.length then Option.bind (bif decide ((v9.1.getD v10.toNat 0)=31)then some (!v12)else some false) (fun(v13:Bool)=>Option.bind (bif v13 then some true else bif v12 then if 0<=v10/\v10<v9.1.length then some (!decide ((v9.1.getD v10.toNat 0)=31))else none else some false) (fun(v14:Bool)=>bif v14 then BO (some false)else some (LO.next (i64.wrap (v10+1)))))else none)else some (LO.brk 2 v10)) 0).bind (LO.fin λi10 v10=>if i10=2 then some true else none)else none))))
theorem t3:tfn E3 f3 S3=G3:=by kernel_rfl
theorem c3:FT prog 3 S3 G3:=AU AH (Ac a5 c5 (Ac a6 c6 (Ac a7 c7 (Ac a8 c8 (Ac a9 c9 (Ac a10 c10 (Ac a11 c11 (Ac a12 c12 Am)))))))) Ak An mixed func3 (by kernel_rfl) t3
end
end Go.Ve.D

