/- What the functions compute (printed by a program), and that they do. -/
import Derived.Test.YtbbhfpbalccohaaGreatUr8
namespace Go.Ve.D
open Go Go.Ve Go.Proofs Go.Proofs.Tryz
set_option maxRecDepth 100000
open IntKind
noncomputable section
def S114:Sig:=⟨[(false,(.sl yN))],[(false,2,(.sl yN))]⟩
def E114:Ay:=⟨⟨TB,[⟨78,S78,G78⟩],[],[],⟨33,[],0⟩⟩,[(3,[3,4],[1,1003001]),(3,[1000003,3,4],[])],[]⟩
def G114(x:LN):Option LN:=((Ai (fun(v0:(Int×LN))=>bif decide (v0.1<(x.length:Int))then if 0<=v0.1/\v0.1<(x.length:Int)then if 0<=v0.1/\v0.1<(x.length:Int)then if 0<=v0.1/\v0.1<(x.length:Int)then(G78 (x.getD v0.1.toNat nd0).2.2).bind fun v1=>if(v0.2.length+(((x.getD v0.1.toNat nd0).1,((x.getD v0.1.toNat nd0).2.1,v1))::([]:LN)).length)<=3518437208883 then some (LO.next ((i64.wrap (v0.1+1)),(v0.2++(((x.getD v0.1.toNat nd0).1,((x.getD v0.1.toNat nd0).2.1,v1))::([]:LN)))))else none else none else none else none else some (LO.brk 0 (v0.1,v0.2))) (0,([]:LN))).bind (LO.fin fun i0 v0=>if i0=0 then some v0.2 else none))
theorem c114:FT prog 114 S114 G114:=fk E114 (ek c78 Ac) func114 (by kernel_rfl) (by kernel_rfl)
def S80:Sig:=⟨[(false,yI),(false,(.sl yN)),(false,(.sl yN))],[(false,2,(.sl yN))]⟩
def E80:Ay:=⟨⟨TB,[⟨114,S114,G114⟩],[],[],⟨18,[],0⟩⟩,[],[]⟩
def G80(x:(Int×(LN×LN))):Option LN:=((G114 x.2.1).bind fun v0=>if(((x.1,(0,[]))::([]:LN)).length+v0.length)<=3518437208883 then(G114 x.2.2).bind fun v1=>if((((x.1,(0,[]))::([]:LN))++v0).length+v1.length)<=3518437208883 then some ((((x.1,(0,[]))::([]:LN))++v0)++v1)else none else none)
theorem c80:FT prog 80 S80 G80:=fk E80 (ek c114 Ac) func80 (by kernel_rfl) (by kernel_rfl)
def S41:Sig:=⟨[(true,ySt),(false,yL),(false,(.sl yN))],[(false,0,.bool),(false,0,yI)]⟩
def E41:Ay:=⟨⟨TB,[⟨51,S51,G51⟩,⟨53,S53,G53⟩,⟨80,S80,G80⟩],[],[],⟨66,[3],0⟩⟩,[(7,[10,11,12],[1010002,1011003]),(7,[1000007,10,11,12],[]),(10,[10,11,13],[1010002,1011003,2000012]),(10,[1000010,10,11,12,13],[])],[]⟩
def G41(x:(St×(LI×LN))):Option (Bool×Int):=((G51 ((x.1.1,x.1.2),(x.2.1,x.2.2))).bind fun v0=>bif !decide (v0=0)then some (false,v0)else(G80 (6,(x.2.2,((1,(0,[]))::([]:LN))))).bind fun v1=>(G53 ((x.1.1,x.1.2),(x.2.1,(x.2.2,0)))).bind fun v2=>(G53 ((x.1.1,x.1.2),(x.2.1,(v1,0)))).bind fun v3=>(Ai (fun(v4:Int)=>bif decide (v4<(v2.length:Int))then(Ai (fun(v5:Int)=>if 0<=v4/\v4<(v2.length:Int)then bif decide (v5<((v2.getD v4.toNat []).length:Int))then if 0<=v4/\v4<(v2.length:Int)then if 0<=v5/\v5<((v2.getD v4.toNat []).length:Int)then Option.bind (bif !((v2.getD v4.toNat []).getD v5.toNat false)then if 0<=v4/\v4<(v3.length:Int)then if 0<=v5/\v5<((v3.getD v4.toNat []).length:Int)then some (!((v3.getD v4.toNat []).getD v5.toNat false))else none else none else some false) (fun(v6:Bool)=>bif v6 then AN (AN (some (false,0)))else some (LO.next (i64.wrap (v5+1))))else none else none else some (LO.brk 2 v5)else none) 0).bind (LO.fin fun i5 v5=>if i5=2 then some (LO.next (i64.wrap (v4+1)))else none)else some (LO.brk 0 v4)) 0).bind (LO.fin fun i4 v4=>if i4=0 then some (true,0)else none))
theorem c41:FT prog 41 S41 G41:=fk E41 (ek c51 (ek c53 (ek c80 Ac))) func41 (by kernel_rfl) (by kernel_rfl)
def S83:Sig:=⟨[(false,.bool),(false,.bool)],[(false,0,.bool)]⟩
def E83:Ay:=⟨⟨TB,[],[],[],⟨7,[],0⟩⟩,[],[]⟩
def G83(x:(Bool×Bool)):Option Bool:=(some (!x.1))
theorem c83:FT prog 83 S83 G83:=fk E83 Ac func83 (by kernel_rfl) (by kernel_rfl)
def S84:Sig:=⟨[(false,.bool),(false,.bool)],[(false,0,.bool)]⟩
def E84:Ay:=⟨⟨TB,[],[],[],⟨9,[],0⟩⟩,[],[]⟩
def G84(x:(Bool×Bool)):Option Bool:=(Option.bind (bif x.1 then some true else some x.2) (fun(v0:Bool)=>some v0))
theorem c84:FT prog 84 S84 G84:=fk E84 Ac func84 (by kernel_rfl) (by kernel_rfl)
def S40082:Sig:=⟨[(false,(.sl (.sl .bool))),(false,(.sl (.sl .bool))),(false,(.clo 83 .unit))],[(false,2,(.sl (.sl .bool)))]⟩
def E40082:Ay:=⟨⟨TB,[⟨83,S83,G83⟩],[],[],⟨54,[],0⟩⟩,[(3,[7,14],[1,1007001,2000013]),(3,[1000003,7,13,14],[]),(7,[7,9,25],[1,2,1007001,2000008,1009002,2000013,2000014,2000024]),(7,[1000007,7,8,9,13,14,24,25],[])],[]⟩
def G40082(x:(LLB×(LLB×Unit))):Option LLB:=(pw G83 x)
theorem c40082:FT prog 82 S40082 G40082:=fk E40082 (ek c83 Ac) func82 (by kernel_rfl) (by kernel_rfl)
def S50082:Sig:=⟨[(false,(.sl (.sl .bool))),(false,(.sl (.sl .bool))),(false,(.clo 84 .unit))],[(false,2,(.sl (.sl .bool)))]⟩
def E50082:Ay:=⟨⟨TB,[⟨84,S84,G84⟩],[],[],⟨54,[],0⟩⟩,[(3,[7,14],[1,1007001,2000013]),(3,[1000003,7,13,14],[]),(7,[7,9,25],[1,2,1007001,2000008,1009002,2000013,2000014,2000024]),(7,[1000007,7,8,9,13,14,24,25],[])],[]⟩
def G50082(x:(LLB×(LLB×Unit))):Option LLB:=(pw G84 x)
theorem c50082:FT prog 82 S50082 G50082:=fk E50082 (ek c84 Ac) func82 (by kernel_rfl) (by kernel_rfl)
def S42:Sig:=⟨[(true,ySt),(false,yL),(false,(.sl yN))],[(false,0,.bool),(false,0,yI)]⟩
def E42:Ay:=⟨⟨TB,[⟨81,S81,G81⟩,⟨82,S10082,G10082⟩,⟨82,S20082,G20082⟩,⟨82,S30082,G30082⟩,⟨57,S57,G57⟩,⟨76,S76,G76⟩,⟨83,S83,G83⟩,⟨84,S84,G84⟩,⟨82,S40082,G40082⟩,⟨82,S50082,G50082⟩],[],[⟨74,S74,G74⟩],⟨41,[3],0⟩⟩,[],[]⟩
def G42(x:(St×(LI×LN))):Option (Bool×Int):=((G57 ((x.1.1,x.1.2),(x.2.1,x.2.2))).bind fun v0=>bif !decide (v0.2=0)then some (false,v0.2)else(G74 (x.1.1,x.1.2)).bind fun v1=>bif v1.1 then(G40082 (v0.1,(v0.1,()))).bind fun v2=>(G81 (v1.2,(x.2.1,v2))).bind fun v3=>(G50082 (v0.1,(v3,()))).bind fun v4=>(G76 v4).bind fun v5=>some ((!v5.2.2),0)else(G40082 (v0.1,(v0.1,()))).bind fun v2=>none)
theorem t42:tfn E42 f42 S42=G42:=by kernel_rfl
theorem c42:FT prog 42 S42 G42:=JT IJ (ek c81 (ek c10082 (ek c20082 (ek c30082 (ek c57 (ek c76 (ek c83 (ek c84 (ek c40082 (ek c50082 Ac)))))))))) Cm (PL (ak (by rfl)) c74 Cn) I8 func42 (by kernel_rfl) t42
def S9:Sig:=⟨[(true,ySt),(false,yL),(false,(.sl yN))],[(false,0,.bool)]⟩
def E9:Ay:=⟨⟨TB,[⟨11,S11,G11⟩,⟨12,S12,G12⟩,⟨15,S15,G15⟩,⟨14,S14,G14⟩,⟨16,S16,G16⟩,⟨20,S20,G20⟩,⟨19,S19,G19⟩,⟨21,S21,G21⟩,⟨41,S41,G41⟩,⟨42,S42,G42⟩],[],[],⟨74,[3],0⟩⟩,[],[]⟩
def G9(x:(St×(LI×LN))):Option Bool:=(bif decide (1048576<(x.2.1.length:Int))then some true else(G11 ((x.1.1,x.1.2),1048576)).bind fun v0=>bif decide (v0<0)then some true else(G12 (x.2.2,v0)).bind fun v1=>bif decide (v1<0)then some true else(G14 (x.1.1,x.1.2)).bind fun v2=>(G15 x.2.1).bind fun v3=>(G16 x.2.2).bind fun v4=>(G41 ((v2.1,v2.2),(v3,v4))).bind fun v5=>(G14 (x.1.1,x.1.2)).bind fun v6=>(G15 x.2.1).bind fun v7=>(G16 x.2.2).bind fun v8=>(G42 ((v6.1,v6.2),(v7,v8))).bind fun v9=>Option.bind (bif !(v9.1==v5.1)then some true else some (!decide (v9.2=v5.2))) (fun(v10:Bool)=>bif v10 then some false else(G14 (x.1.1,x.1.2)).bind fun v11=>(G19 ((v6.1,v6.2),(v11.1,v11.2))).bind fun v12=>bif !v12 then some false else(G15 x.2.1).bind fun v13=>(G20 (v7,v13)).bind fun v14=>bif !v14 then some false else(G16 x.2.2).bind fun v15=>(G21 (v8,v15)).bind fun v16=>bif !v16 then some false else some true))
theorem c9:FT prog 9 S9 G9:=fk E9 (ek c11 (ek c12 (ek c15 (ek c14 (ek c16 (ek c20 (ek c19 (ek c21 (ek c41 (ek c42 Ac)))))))))) func9 (by kernel_rfl) (by kernel_rfl)
end
end Go.Ve.D

