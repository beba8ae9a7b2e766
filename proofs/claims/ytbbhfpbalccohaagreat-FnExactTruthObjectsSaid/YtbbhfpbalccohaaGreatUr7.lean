/- What the functions compute (printed by a program), and that they do. -/
import Derived.Test.YtbbhfpbalccohaaGreatUr6
namespace Go.Ve.D
open Go Go.Ve Go.Proofs Go.Proofs.Tryz
set_option maxRecDepth 100000
open IntKind
noncomputable section
def S34:Sig:=⟨[(true,ySt),(false,(.sl yN))],[(false,1,yL),(false,0,yI)]⟩
def E34:AG:=⟨⟨TB,[⟨51,S51,G51⟩,⟨53,S53,G53⟩],[],[],⟨37,[2],0⟩⟩,[(6,[7,8,9],[2,1007001,1008002]),(6,[1000006,7,8,9],[])],[]⟩
def G34(x:(St×LN)):Option (LI×Int):=((G51 ((x.1.1,x.1.2),([],x.2))).bind fun v0=>bif !decide (v0=0)then some ([],v0)else(G53 ((x.1.1,x.1.2),([],(x.2,0)))).bind fun v1=>(Am (fun(v2:(Int×LI))=>bif decide (v2.1<(v1.length:Int))then if 0<=v2.1/\v2.1<(v1.length:Int)then if(0:Int)<=(0:Int)/\0<((v1.getD v2.1.toNat []).length:Int)then bif(v1.getD v2.1.toNat []).getD (0:Int).toNat false then if(v2.2.length+(v2.1:: []).length)<=17592186044416 then some (LO.next ((i64.wrap (v2.1+1)),(v2.2++(v2.1:: []))))else none else some (LO.next ((i64.wrap (v2.1+1)),v2.2))else none else none else some (LO.brk 0 (v2.1,v2.2))) (0,[])).bind (LO.fin fun i2 v2=>if i2=0 then some (v2.2,0)else none))
theorem t34:tfn E34 f34 S34=G34:=by kernel_rfl
theorem c34:FT prog 34 S34 G34:=Av Ar (Ab a51 c51 (Ab a53 c53 Af)) Ae Ag As func34 (by kernel_rfl) t34
theorem a34:Ad prog 34=true:=by kernel_rfl
def S35:Sig:=⟨[(true,ySt),(false,(.sl yN))],[(false,1,yL),(false,0,yI)]⟩
def E35:AG:=⟨⟨TB,[⟨57,S57,G57⟩],[],[],⟨36,[2],0⟩⟩,[(6,[8,20,22],[2,1008002,1020001,2000021]),(6,[1000006,8,20,21,22],[])],[]⟩
def G35(x:(St×LN)):Option (LI×Int):=((G57 ((x.1.1,x.1.2),([],x.2))).bind fun v0=>bif !decide (v0.2=0)then some ([],v0.2)else(Am (fun(v1:(Int×LI))=>bif decide (v1.1<(v0.1.length:Int))then if 0<=v1.1/\v1.1<(v0.1.length:Int)then if(0:Int)<=(0:Int)/\0<((v0.1.getD v1.1.toNat []).length:Int)then bif(v0.1.getD v1.1.toNat []).getD (0:Int).toNat false then if(v1.2.length+(v1.1:: []).length)<=17592186044416 then some (LO.next ((i64.wrap (v1.1+1)),(v1.2++(v1.1:: []))))else none else some (LO.next ((i64.wrap (v1.1+1)),v1.2))else none else none else some (LO.brk 0 (v1.1,v1.2))) (0,[])).bind (LO.fin fun i1 v1=>if i1=0 then some (v1.2,0)else none))
theorem t35:tfn E35 f35 S35=G35:=by kernel_rfl
theorem c35:FT prog 35 S35 G35:=Av Ar (Ab a57 c57 Af) Ae Ag As func35 (by kernel_rfl) t35
theorem a35:Ad prog 35=true:=by kernel_rfl
def S7:Sig:=⟨[(true,ySt),(false,(.sl yN))],[(false,0,.bool)]⟩
def E7:AG:=⟨⟨TB,[⟨11,S11,G11⟩,⟨12,S12,G12⟩,⟨14,S14,G14⟩,⟨16,S16,G16⟩,⟨20,S20,G20⟩,⟨19,S19,G19⟩,⟨21,S21,G21⟩,⟨33,S33,G33⟩,⟨34,S34,G34⟩,⟨35,S35,G35⟩],[⟨23,S23,G23⟩,⟨22,S22,G22⟩,⟨24,S24,G24⟩],[],⟨119,[2,75],0⟩⟩,[],[]⟩
def G7(x:(St×LN)):Option Bool:=((G11 ((x.1.1,x.1.2),1048576)).bind fun v0=>bif decide (v0<0)then some true else(G12 (x.2,v0)).bind fun v1=>bif decide (v1<0)then some true else(G14 (x.1.1,x.1.2)).bind fun v2=>(G16 x.2).bind fun v3=>(G34 ((v2.1,v2.2),v3)).bind fun v4=>(G14 (x.1.1,x.1.2)).bind fun v5=>(G16 x.2).bind fun v6=>(G35 ((v5.1,v5.2),v6)).bind fun v7=>(G20 (v7.1,v4.1)).bind fun v8=>Option.bind (bif !v8 then some true else some (!decide (v7.2=v4.2))) (fun(v9:Bool)=>bif v9 then some false else(G14 (x.1.1,x.1.2)).bind fun v10=>(G19 ((v5.1,v5.2),(v10.1,v10.2))).bind fun v11=>bif !v11 then some false else(G16 x.2).bind fun v12=>(G21 (v6,v12)).bind fun v13=>bif !v13 then some false else(G22 ((v5.1,v5.2),1)).bind fun v14=>(G24 (v6,v14.1)).bind fun v15=>Option.bind (bif decide (v15.1<0)then some true else(G20 (v7.1,v4.1)).bind fun v16=>some (!v16)) (fun(v16:Bool)=>Option.bind (bif v16 then some true else some (!decide (v7.2=v4.2))) (fun(v17:Bool)=>bif v17 then some false else(G23 (v7.1,1)).bind fun v18=>(G33 (v18.2,1)).bind fun v19=>bif decide (v19<0)then some false else bif !decide (v19=v18.1)then some false else(G14 (x.1.1,x.1.2)).bind fun v20=>(G16 x.2).bind fun v21=>(G35 ((v20.1,v20.2),v21)).bind fun v22=>(G20 (v22.1,v4.1)).bind fun v23=>Option.bind (bif !v23 then some true else some (!decide (v22.2=v4.2))) (fun(v24:Bool)=>bif v24 then some false else(G33 (v18.2,1)).bind fun v25=>bif decide (v25<0)then some false else bif !decide (v25=v18.1)then some false else some true)))))
theorem t7:tfn E7 f7 S7=G7:=by kernel_rfl
theorem c7:FT prog 7 S7 G7:=Av Ar (Ab a11 c11 (Ab a12 c12 (Ab a14 c14 (Ab a16 c16 (Ab a20 c20 (Ab a19 c19 (Ab a21 c21 (Ab a33 c33 (Ab a34 c34 (Ab a35 c35 Af)))))))))) (BT a23 c23 (BT a22 c22 (BT a24 c24 Ae))) Ag As func7 (by kernel_rfl) t7
end
end Go.Ve.D

