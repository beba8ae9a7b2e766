/- What the functions compute (printed by a program), and that they do. -/
import Derived.Test.YtbbhfpbalccohaaGreatUr6
namespace Go.Ve.D
open Go Go.Ve Go.Proofs Go.Proofs.Tryz
set_option maxRecDepth 100000
open IntKind
noncomputable section
def S75:Sig:=⟨[(true,ySt),(false,yL),(false,(.sl yN))],[(false,0,yI),(false,1,yL),(false,0,.bool)]⟩
def E75:AF:=⟨⟨TB,[⟨66,S66,G66⟩,⟨98,S98,G98⟩,⟨53,S53,G53⟩],[],[],⟨47,[3],0⟩⟩,[(3,[9,10],[1009001]),(3,[1000003,9,10],[]),(6,[9,11],[1009001,2000010]),(6,[1000006,9,10,11],[])],[]⟩
def G75(x:(St×(LI×LN))):Option (Int×(LI×Bool)):=((G53 ((x.1.1,x.1.2),(x.2.1,(x.2.2,0)))).bind fun v0=>(Am (fun(v1:Int)=>bif decide (v1<(v0.length:Int))then(Am (fun(v2:Int)=>if 0<=v1/\v1<(v0.length:Int)then bif decide (v2<((v0.getD v1.toNat []).length:Int))then if 0<=v1/\v1<(v0.length:Int)then if 0<=v2/\v2<((v0.getD v1.toNat []).length:Int)then bif !((v0.getD v1.toNat []).getD v2.toNat false)then(G66 (x.1.1,(x.2.1,v1))).bind fun v3=>(G98 (v3,v2)).bind fun v4=>AV (AV (some (v1,(v4,true))))else some (LO.next (i64.wrap (v2+1)))else none else none else some (LO.brk 2 v2)else none) 0).bind (LO.fin fun i2 v2=>if i2=2 then some (LO.next (i64.wrap (v1+1)))else none)else some (LO.brk 0 v1)) 0).bind (LO.fin fun i1 v1=>if i1=0 then some (0,([],false))else none))
theorem t75:tfn E75 f75 S75=G75:=by kernel_rfl
theorem c75:FT prog 75 S75 G75:=Av As (Ab a66 c66 (Ab a98 c98 (Ab a53 c53 Af))) Ae Ag Au func75 (by kernel_rfl) t75
theorem a75:Ad prog 75=true:=by kernel_rfl
def S29:Sig:=⟨[(true,ySt),(false,yL),(false,(.sl yN))],[(false,0,.bool),(false,0,yI)]⟩
def E29:AF:=⟨⟨TB,[⟨51,S51,G51⟩,⟨75,S75,G75⟩],[],[],⟨29,[3],0⟩⟩,[],[]⟩
def G29(x:(St×(LI×LN))):Option (Bool×Int):=((G51 ((x.1.1,x.1.2),(x.2.1,x.2.2))).bind fun v0=>bif !decide (v0=0)then some (false,v0)else(G75 ((x.1.1,x.1.2),(x.2.1,x.2.2))).bind fun v1=>some ((!v1.2.2),0))
theorem t29:tfn E29 f29 S29=G29:=by kernel_rfl
theorem c29:FT prog 29 S29 G29:=Av As (Ab a51 c51 (Ab a75 c75 Af)) Ae Ag Au func29 (by kernel_rfl) t29
theorem a29:Ad prog 29=true:=by kernel_rfl
def S76:Sig:=⟨[(false,(.sl (.sl .bool)))],[(false,0,yI),(false,0,yI),(false,0,.bool)]⟩
def E76:AF:=⟨⟨TB,[],[],[],⟨29,[],0⟩⟩,[(2,[11],[2000009,2000010]),(2,[1000002,9,10,11],[]),(5,[18],[2000005,2000009,2000010,2000011,2000016,2000017]),(5,[1000005,5,9,10,11,16,17,18],[])],[]⟩
def G76(x:LLB):Option (Int×(Int×Bool)):=((Am (fun(v0:Int)=>bif decide (v0<(x.length:Int))then if 0<=v0/\v0<(x.length:Int)then(Am (fun(v1:Int)=>bif decide (v1<((x.getD v0.toNat []).length:Int))then if 0<=v1/\v1<((x.getD v0.toNat []).length:Int)then bif !((x.getD v0.toNat []).getD v1.toNat false)then AV (AV (some (v0,(v1,true))))else some (LO.next (i64.wrap (v1+1)))else none else some (LO.brk 2 v1)) 0).bind (LO.fin fun i1 v1=>if i1=2 then some (LO.next (i64.wrap (v0+1)))else none)else none else some (LO.brk 0 v0)) 0).bind (LO.fin fun i0 v0=>if i0=0 then some (0,(0,false))else none))
theorem t76:tfn E76 f76 S76=G76:=by kernel_rfl
theorem c76:FT prog 76 S76 G76:=Av As Af Ae Ag Au func76 (by kernel_rfl) t76
theorem a76:Ad prog 76=true:=by kernel_rfl
def S30:Sig:=⟨[(true,ySt),(false,yL),(false,(.sl yN))],[(false,0,.bool),(false,0,yI)]⟩
def E30:AF:=⟨⟨TB,[⟨57,S57,G57⟩,⟨76,S76,G76⟩],[],[],⟨30,[3],0⟩⟩,[],[]⟩
def G30(x:(St×(LI×LN))):Option (Bool×Int):=((G57 ((x.1.1,x.1.2),(x.2.1,x.2.2))).bind fun v0=>bif !decide (v0.2=0)then some (false,v0.2)else(G76 v0.1).bind fun v1=>some ((!v1.2.2),0))
theorem t30:tfn E30 f30 S30=G30:=by kernel_rfl
theorem c30:FT prog 30 S30 G30:=Av As (Ab a57 c57 (Ab a76 c76 Af)) Ae Ag Au func30 (by kernel_rfl) t30
theorem a30:Ad prog 30=true:=by kernel_rfl
def S5:Sig:=⟨[(true,ySt),(false,yL),(false,(.sl yN))],[(false,0,.bool)]⟩
def E5:AF:=⟨⟨TB,[⟨11,S11,G11⟩,⟨12,S12,G12⟩,⟨15,S15,G15⟩,⟨14,S14,G14⟩,⟨16,S16,G16⟩,⟨20,S20,G20⟩,⟨19,S19,G19⟩,⟨21,S21,G21⟩,⟨29,S29,G29⟩,⟨30,S30,G30⟩],[],[],⟨74,[3],0⟩⟩,[],[]⟩
def G5(x:(St×(LI×LN))):Option Bool:=(bif decide (1048576<(x.2.1.length:Int))then some true else(G11 ((x.1.1,x.1.2),1048576)).bind fun v0=>bif decide (v0<0)then some true else(G12 (x.2.2,v0)).bind fun v1=>bif decide (v1<0)then some true else(G14 (x.1.1,x.1.2)).bind fun v2=>(G15 x.2.1).bind fun v3=>(G16 x.2.2).bind fun v4=>(G29 ((v2.1,v2.2),(v3,v4))).bind fun v5=>(G14 (x.1.1,x.1.2)).bind fun v6=>(G15 x.2.1).bind fun v7=>(G16 x.2.2).bind fun v8=>(G30 ((v6.1,v6.2),(v7,v8))).bind fun v9=>Option.bind (bif !(v9.1==v5.1)then some true else some (!decide (v9.2=v5.2))) (fun(v10:Bool)=>bif v10 then some false else(G14 (x.1.1,x.1.2)).bind fun v11=>(G19 ((v6.1,v6.2),(v11.1,v11.2))).bind fun v12=>bif !v12 then some false else(G15 x.2.1).bind fun v13=>(G20 (v7,v13)).bind fun v14=>bif !v14 then some false else(G16 x.2.2).bind fun v15=>(G21 (v8,v15)).bind fun v16=>bif !v16 then some false else some true))
theorem t5:tfn E5 f5 S5=G5:=by kernel_rfl
theorem c5:FT prog 5 S5 G5:=Av As (Ab a11 c11 (Ab a12 c12 (Ab a15 c15 (Ab a14 c14 (Ab a16 c16 (Ab a20 c20 (Ab a19 c19 (Ab a21 c21 (Ab a29 c29 (Ab a30 c30 Af)))))))))) Ae Ag Au func5 (by kernel_rfl) t5
end
end Go.Ve.D

