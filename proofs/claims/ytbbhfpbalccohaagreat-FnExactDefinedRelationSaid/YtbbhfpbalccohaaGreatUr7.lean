/- What the functions compute (printed by a program), and that they do. -/
import Derived.Test.YtbbhfpbalccohaaGreatUr6
namespace Go.Ve.D
open Go Go.Ve Go.Proofs Go.Proofs.Tryz
set_option maxRecDepth 100000
open IntKind
noncomputable section
def S36:Sig:=⟨[(true,ySt),(false,yL),(false,(.sl yN))],[(true,2,yR),(false,0,yI)]⟩
def E36:AF:=⟨⟨TB,[⟨78,S78,G78⟩,⟨64,S64,G64⟩,⟨13,S13,G13⟩],[],[],⟨42,[3],0⟩⟩,[],[]⟩
def G36(x:(St×(LI×LN))):Option (Rl×Int):=((G64 ((x.1.1,x.1.2),(x.2.1,x.2.2))).bind fun v0=>Option.bind (bif decide (v0=1)then some true else some (decide (v0=2))) (fun(v1:Bool)=>bif v1 then some (rl0,v0)else bif decide (2<(x.2.1.length:Int))then some (rl0,2)else(G13 ((x.1.1,x.1.2),(x.2.1,x.2.2))).bind fun v2=>bif !decide (v2.2=0)then some (rl0,v2.2)else(G78 x.2.1).bind fun v3=>some ((v3,v2.1),0)))
theorem t36:tfn E36 f36 S36=G36:=by kernel_rfl
theorem c36:FT prog 36 S36 G36:=Au Aq (Ab a78 c78 (Ab a64 c64 (Ab a13 c13 Af))) Ae Ag Ar func36 (by kernel_rfl) t36
theorem a36:Ad prog 36=true:=by kernel_rfl
def S37:Sig:=⟨[(true,ySt),(false,yL),(false,(.sl yN))],[(true,2,yR),(false,0,yI)]⟩
def E37:AF:=⟨⟨TB,[⟨68,S68,G68⟩,⟨79,S79,G79⟩,⟨57,S57,G57⟩,⟨58,S58,G58⟩],[],[],⟨38,[3],0⟩⟩,[],[]⟩
def G37(x:(St×(LI×LN))):Option (Rl×Int):=((G68 ((x.1.1,x.1.2),(x.2.1,(x.2.2::([]:(List LN)))))).bind fun v0=>bif !decide (v0=0)then some (rl0,v0)else bif decide (2<(x.2.1.length:Int))then some (rl0,2)else(G57 ((x.1.1,x.1.2),(x.2.1,x.2.2))).bind fun v1=>bif !decide (v1.2=0)then some (rl0,v1.2)else(G79 x.2.1).bind fun v2=>(G58 v1.1).bind fun v3=>some ((v2,v3),0))
theorem t37:tfn E37 f37 S37=G37:=by kernel_rfl
theorem c37:FT prog 37 S37 G37:=Au Aq (Ab a68 c68 (Ab a79 c79 (Ab a57 c57 (Ab a58 c58 Af)))) Ae Ag Ar func37 (by kernel_rfl) t37
theorem a37:Ad prog 37=true:=by kernel_rfl
def S39:WU:=⟨[(true,true,yR),(false,false,yI)],yI⟩
def E39:AF:=⟨⟨TB,[],[⟨23,S23,G23⟩,⟨25,S25,G25⟩],[],⟨14,[2],2⟩⟩,[],[]⟩
def G39(x:(Rl×Int)):Option (Int×Rl):=((G23 (x.1.1,x.2)).bind fun v0=>(G25 (x.1.2,v0.1)).bind fun v1=>some (v1.1,(v0.2,v1.2)))
theorem t39:Xn E39 f39 S39=G39:=by kernel_rfl
theorem c39:FTW prog 39 S39 G39:=JJ Aq Af (Bo a23 c23 (Bo a25 c25 Ae)) Ag Ar func39 (by kernel_rfl) t39
theorem a39:Ad prog 39=true:=by kernel_rfl
def S40:Sig:=⟨[(true,yR),(false,yI)],[(false,0,yI)]⟩
def E40:AF:=⟨⟨TB,[⟨33,S33,G33⟩,⟨26,S26,G26⟩],[],[],⟨18,[2],0⟩⟩,[],[]⟩
def G40(x:(Rl×Int)):Option Int:=((G33 (x.1.1,x.2)).bind fun v0=>bif decide (v0<0)then some (-1)else(G26 (x.1.2,v0)).bind fun v1=>bif decide (v1<0)then some (-1)else some v1)
theorem t40:tfn E40 f40 S40=G40:=by kernel_rfl
theorem c40:FT prog 40 S40 G40:=Au Aq (Ab a33 c33 (Ab a26 c26 Af)) Ae Ag Ar func40 (by kernel_rfl) t40
theorem a40:Ad prog 40=true:=by kernel_rfl
def S8:Sig:=⟨[(true,ySt),(false,yL),(false,(.sl yN))],[(false,0,.bool)]⟩
def E8:AF:=⟨⟨TB,[⟨11,S11,G11⟩,⟨12,S12,G12⟩,⟨15,S15,G15⟩,⟨14,S14,G14⟩,⟨16,S16,G16⟩,⟨20,S20,G20⟩,⟨38,S38,G38⟩,⟨19,S19,G19⟩,⟨21,S21,G21⟩,⟨36,S36,G36⟩,⟨37,S37,G37⟩,⟨40,S40,G40⟩],[⟨23,S23,G23⟩,⟨22,S22,G22⟩,⟨24,S24,G24⟩,⟨39,S39,G39⟩],[],⟨140,[3,94],0⟩⟩,[],[]⟩
def G8(x:(St×(LI×LN))):Option Bool:=(bif decide (1048576<(x.2.1.length:Int))then some true else(G11 ((x.1.1,x.1.2),1048576)).bind fun v0=>bif decide (v0<0)then some true else(G12 (x.2.2,v0)).bind fun v1=>bif decide (v1<0)then some true else(G14 (x.1.1,x.1.2)).bind fun v2=>(G15 x.2.1).bind fun v3=>(G16 x.2.2).bind fun v4=>(G36 ((v2.1,v2.2),(v3,v4))).bind fun v5=>(G14 (x.1.1,x.1.2)).bind fun v6=>(G15 x.2.1).bind fun v7=>(G16 x.2.2).bind fun v8=>(G37 ((v6.1,v6.2),(v7,v8))).bind fun v9=>(G38 ((v9.1.1,v9.1.2),(v5.1.1,v5.1.2))).bind fun v10=>Option.bind (bif !v10 then some true else some (!decide (v9.2=v5.2))) (fun(v11:Bool)=>bif v11 then some false else(G14 (x.1.1,x.1.2)).bind fun v12=>(G19 ((v6.1,v6.2),(v12.1,v12.2))).bind fun v13=>bif !v13 then some false else(G15 x.2.1).bind fun v14=>(G20 (v7,v14)).bind fun v15=>bif !v15 then some false else(G16 x.2.2).bind fun v16=>(G21 (v8,v16)).bind fun v17=>bif !v17 then some false else(G22 ((v6.1,v6.2),1)).bind fun v18=>(G23 (v7,v18.1)).bind fun v19=>(G24 (v8,v19.1)).bind fun v20=>Option.bind (bif decide (v20.1<0)then some true else(G38 ((v9.1.1,v9.1.2),(v5.1.1,v5.1.2))).bind fun v21=>some (!v21)) (fun(v21:Bool)=>Option.bind (bif v21 then some true else some (!decide (v9.2=v5.2))) (fun(v22:Bool)=>bif v22 then some false else(G39 ((v9.1.1,v9.1.2),1)).bind fun v23=>(G40 ((v23.2.1,v23.2.2),1)).bind fun v24=>bif decide (v24<0)then some false else bif !decide (v24=v23.1)then some false else(G14 (x.1.1,x.1.2)).bind fun v25=>(G15 x.2.1).bind fun v26=>(G16 x.2.2).bind fun v27=>(G37 ((v25.1,v25.2),(v26,v27))).bind fun v28=>(G38 ((v28.1.1,v28.1.2),(v5.1.1,v5.1.2))).bind fun v29=>Option.bind (bif !v29 then some true else some (!decide (v28.2=v5.2))) (fun(v30:Bool)=>bif v30 then some false else(G40 ((v23.2.1,v23.2.2),1)).bind fun v31=>bif decide (v31<0)then some false else bif !decide (v31=v23.1)then some false else some true)))))
theorem t8:tfn E8 f8 S8=G8:=by kernel_rfl
theorem c8:FT prog 8 S8 G8:=Au Aq (Ab a11 c11 (Ab a12 c12 (Ab a15 c15 (Ab a14 c14 (Ab a16 c16 (Ab a20 c20 (Ab a38 c38 (Ab a19 c19 (Ab a21 c21 (Ab a36 c36 (Ab a37 c37 (Ab a40 c40 Af)))))))))))) (Bo a23 c23 (Bo a22 c22 (Bo a24 c24 (Bo a39 c39 Ae)))) Ag Ar func8 (by kernel_rfl) t8
end
end Go.Ve.D

