/- What the functions compute (printed by a program), and that they do. -/
import Derived.Test.YtbbhfpbalccohaaGreatUr6
namespace Go.Ve.D
open Go Go.Ve Go.Proofs Go.Proofs.Tryz
set_option maxRecDepth 100000
open IntKind
noncomputable section
def S75:Sig:=⟨[(true,ySt),(false,yL),(false,(.sl yN))],[(false,0,yI),(false,1,yL),(false,0,.bool)]⟩
def E75:AG:=⟨⟨TB,[⟨66,S66,G66⟩,⟨98,S98,G98⟩,⟨53,S53,G53⟩],[],[],⟨47,[3],0⟩⟩,[(3,[9,10],[1009001]),(3,[1000003,9,10],[]),(6,[9,11],[1009001,2000010]),(6,[1000006,9,10,11],[])],[]⟩
def G75(x:(St×(LI×LN))):Option (Int×(LI×Bool)):=((G53 ((x.1.1,x.1.2),(x.2.1,(x.2.2,0)))).bind fun v0=>(Al (fun(v1:Int)=>bif decide (v1<(v0.length:Int))then(Al (fun(v2:Int)=>if 0<=v1/\v1<(v0.length:Int)then bif decide (v2<((v0.getD v1.toNat []).length:Int))then if 0<=v1/\v1<(v0.length:Int)then if 0<=v2/\v2<((v0.getD v1.toNat []).length:Int)then bif !((v0.getD v1.toNat []).getD v2.toNat false)then(G66 (x.1.1,(x.2.1,v1))).bind fun v3=>(G98 (v3,v2)).bind fun v4=>AW (AW (some (v1,(v4,true))))else some (LO.next (i64.wrap (v2+1)))else none else none else some (LO.brk 2 v2)else none) 0).bind (LO.fin fun i2 v2=>if i2=2 then some (LO.next (i64.wrap (v1+1)))else none)else some (LO.brk 0 v1)) 0).bind (LO.fin fun i1 v1=>if i1=0 then some (0,([],false))else none))
theorem t75:tfn E75 f75 S75=G75:=by kernel_rfl
theorem c75:FT prog 75 S75 G75:=Av Aq (Ab a66 c66 (Ab a98 c98 (Ab a53 c53 Af))) Ae Ag Ar func75 (by kernel_rfl) t75
theorem a75:Ad prog 75=true:=by kernel_rfl
def S76:Sig:=⟨[(false,(.sl (.sl .bool)))],[(false,0,yI),(false,0,yI),(false,0,.bool)]⟩
def E76:AG:=⟨⟨TB,[],[],[],⟨29,[],0⟩⟩,[(2,[11],[2000009,2000010]),(2,[1000002,9,10,11],[]),(5,[18],[2000005,2000009,2000010,2000011,2000016,2000017]),(5,[1000005,5,9,10,11,16,17,18],[])],[]⟩
def G76(x:LLB):Option (Int×(Int×Bool)):=((Al (fun(v0:Int)=>bif decide (v0<(x.length:Int))then if 0<=v0/\v0<(x.length:Int)then(Al (fun(v1:Int)=>bif decide (v1<((x.getD v0.toNat []).length:Int))then if 0<=v1/\v1<((x.getD v0.toNat []).length:Int)then bif !((x.getD v0.toNat []).getD v1.toNat false)then AW (AW (some (v0,(v1,true))))else some (LO.next (i64.wrap (v1+1)))else none else some (LO.brk 2 v1)) 0).bind (LO.fin fun i1 v1=>if i1=2 then some (LO.next (i64.wrap (v0+1)))else none)else none else some (LO.brk 0 v0)) 0).bind (LO.fin fun i0 v0=>if i0=0 then some (0,(0,false))else none))
theorem t76:tfn E76 f76 S76=G76:=by kernel_rfl
theorem c76:FT prog 76 S76 G76:=Av Aq Af Ae Ag Ar func76 (by kernel_rfl) t76
theorem a76:Ad prog 76=true:=by kernel_rfl
def S31:Sig:=⟨[(true,ySt),(false,yL),(false,(.sl yN))],[(false,0,yI),(false,1,yL),(false,0,yI)]⟩
def E31:AG:=⟨⟨TB,[⟨51,S51,G51⟩,⟨75,S75,G75⟩],[],[],⟨32,[3],0⟩⟩,[],[]⟩
def G31(x:(St×(LI×LN))):Option (Int×(LI×Int)):=((G51 ((x.1.1,x.1.2),(x.2.1,x.2.2))).bind fun v0=>bif !decide (v0=0)then some (0,([],v0))else(G75 ((x.1.1,x.1.2),(x.2.1,x.2.2))).bind fun v1=>bif !v1.2.2 then some (0,([],4))else some (v1.1,(v1.2.1,0)))
theorem t31:tfn E31 f31 S31=G31:=by kernel_rfl
theorem c31:FT prog 31 S31 G31:=Av Aq (Ab a51 c51 (Ab a75 c75 Af)) Ae Ag Ar func31 (by kernel_rfl) t31
theorem a31:Ad prog 31=true:=by kernel_rfl
def S32:Sig:=⟨[(true,ySt),(false,yL),(false,(.sl yN))],[(false,0,yI),(false,1,yL),(false,0,yI)]⟩
def E32:AG:=⟨⟨TB,[⟨71,S71,G71⟩,⟨77,S77,G77⟩,⟨57,S57,G57⟩,⟨76,S76,G76⟩],[],[],⟨43,[3],0⟩⟩,[],[]⟩
def G32(x:(St×(LI×LN))):Option (Int×(LI×Int)):=((G57 ((x.1.1,x.1.2),(x.2.1,x.2.2))).bind fun v0=>bif !decide (v0.2=0)then some (0,([],v0.2))else(G76 v0.1).bind fun v1=>bif !v1.2.2 then some (0,([],4))else(G71 ((x.1.1,x.1.2),(x.2.1,v1.1))).bind fun v2=>(G77 (v2,v1.2.1)).bind fun v3=>some (v1.1,(v3.1,0)))
theorem t32:tfn E32 f32 S32=G32:=by kernel_rfl
theorem c32:FT prog 32 S32 G32:=Av Aq (Ab a71 c71 (Ab a77 c77 (Ab a57 c57 (Ab a76 c76 Af)))) Ae Ag Ar func32 (by kernel_rfl) t32
theorem a32:Ad prog 32=true:=by kernel_rfl
def S6:Sig:=⟨[(true,ySt),(false,yL),(false,(.sl yN))],[(false,0,.bool)]⟩
def E6:AG:=⟨⟨TB,[⟨11,S11,G11⟩,⟨12,S12,G12⟩,⟨15,S15,G15⟩,⟨14,S14,G14⟩,⟨16,S16,G16⟩,⟨20,S20,G20⟩,⟨19,S19,G19⟩,⟨21,S21,G21⟩,⟨33,S33,G33⟩,⟨31,S31,G31⟩,⟨32,S32,G32⟩],[⟨23,S23,G23⟩,⟨22,S22,G22⟩,⟨24,S24,G24⟩],[],⟨161,[3,67,109,145],0⟩⟩,[],[]⟩
def G6(x:(St×(LI×LN))):Option Bool:=(bif decide (1048576<(x.2.1.length:Int))then some true else(G11 ((x.1.1,x.1.2),1048576)).bind fun v0=>bif decide (v0<0)then some true else(G12 (x.2.2,v0)).bind fun v1=>bif decide (v1<0)then some true else(G14 (x.1.1,x.1.2)).bind fun v2=>(G15 x.2.1).bind fun v3=>(G16 x.2.2).bind fun v4=>(G31 ((v2.1,v2.2),(v3,v4))).bind fun v5=>(G14 (x.1.1,x.1.2)).bind fun v6=>(G15 x.2.1).bind fun v7=>(G16 x.2.2).bind fun v8=>(G32 ((v6.1,v6.2),(v7,v8))).bind fun v9=>Option.bind (bif !decide (v9.1=v5.1)then some true else(G20 (v9.2.1,v5.2.1)).bind fun v10=>some (!v10)) (fun(v10:Bool)=>Option.bind (bif v10 then some true else some (!decide (v9.2.2=v5.2.2))) (fun(v11:Bool)=>bif v11 then some false else(G14 (x.1.1,x.1.2)).bind fun v12=>(G19 ((v6.1,v6.2),(v12.1,v12.2))).bind fun v13=>bif !v13 then some false else(G15 x.2.1).bind fun v14=>(G20 (v7,v14)).bind fun v15=>bif !v15 then some false else(G16 x.2.2).bind fun v16=>(G21 (v8,v16)).bind fun v17=>bif !v17 then some false else(G22 ((v6.1,v6.2),1)).bind fun v18=>(G23 (v7,v18.1)).bind fun v19=>(G24 (v8,v19.1)).bind fun v20=>Option.bind (bif decide (v20.1<0)then some true else some (!decide (v9.1=v5.1))) (fun(v21:Bool)=>Option.bind (bif v21 then some true else(G20 (v9.2.1,v5.2.1)).bind fun v22=>some (!v22)) (fun(v22:Bool)=>Option.bind (bif v22 then some true else some (!decide (v9.2.2=v5.2.2))) (fun(v23:Bool)=>bif v23 then some false else(G23 (v9.2.1,1)).bind fun v24=>(G33 (v24.2,1)).bind fun v25=>bif decide (v25<0)then some false else bif !decide (v25=v24.1)then some false else(G14 (x.1.1,x.1.2)).bind fun v26=>(G15 x.2.1).bind fun v27=>(G16 x.2.2).bind fun v28=>(G32 ((v26.1,v26.2),(v27,v28))).bind fun v29=>Option.bind (bif !decide (v29.1=v5.1)then some true else(G20 (v29.2.1,v5.2.1)).bind fun v30=>some (!v30)) (fun(v30:Bool)=>Option.bind (bif v30 then some true else some (!decide (v29.2.2=v5.2.2))) (fun(v31:Bool)=>bif v31 then some false else(G33 (v24.2,1)).bind fun v32=>bif decide (v32<0)then some false else bif !decide (v32=v24.1)then some false else some true))))))))
theorem t6:tfn E6 f6 S6=G6:=by kernel_rfl
theorem c6:FT prog 6 S6 G6:=Av Aq (Ab a11 c11 (Ab a12 c12 (Ab a15 c15 (Ab a14 c14 (Ab a16 c16 (Ab a20 c20 (Ab a19 c19 (Ab a21 c21 (Ab a33 c33 (Ab a31 c31 (Ab a32 c32 Af))))))))))) (BT a23 c23 (BT a22 c22 (BT a24 c24 Ae))) Ag Ar func6 (by kernel_rfl) t6
end
end Go.Ve.D

