/- What the functions compute (printed by a program), and that they do. -/
import Derived.Test.YtdhfaeiafmlhlaaUr12
set_option linter.all false
namespace Go.Ve.D
open Go Go.Ve Go.Proofs Go.Proofs.Try
set_option maxRecDepth 100000
abbrev yC:Ty:=(.pair (.int .i64) (.pair (.sl (.int .i64)) (.pair (.sl (.int .i64)) (.pair (.sl (.int .i64)) (.sl (.sl (.int .i64)))))))
abbrev yB:Ty:=(.pair (.sl (.int .u8)) (.pair (.int .i64) (.int .u64)))
abbrev yM:Ty:=(.sl (.sl (.int .i64)))
abbrev yL:Ty:=(.sl (.int .i64))
abbrev yI:Ty:=(.int .i64)
abbrev LI:=List Int
abbrev LL:=List (List Int)
abbrev LB:=List Bool
abbrev Ca:=Int×List Int×List Int×List Int×List (List Int)
abbrev Bx:=List Int×Int×Int
open IntKind
noncomputable section
def S34:Sig:=⟨[(false,yL),(false,yI)],[(false,0,yI)]⟩
def E34:A8:=⟨⟨TB,[],[],[],⟨12,[],0⟩,[]⟩,[],[]⟩
def G34(x:(LI×Int)):Option Int:=(bif decide ((i64.wrap (x.2-(x.1.length:Int)))<0)then some (-1)else some (i64.wrap (x.2-(x.1.length:Int))))
def t34:tfn E34 f34 S34=G34:=by kernel_rfl
def c34:FT prog 34 S34 G34:=AU AH An Am Ao mixed func34 (by kernel_rfl) t34
def a34:Ae prog 34=true:=by kernel_rfl
def S35:Sig:=⟨[(false,yM),(false,yI)],[(false,0,yI)]⟩
def E35:A8:=⟨⟨TB,[⟨34,S34,G34⟩],[],[],⟨27,[],0⟩,[]⟩,[(5,[1,5],[]),(5,[1000005,1,5],[])],[]⟩
def G35(x:(LL×Int)):Option Int:=(bif decide ((i64.wrap (x.2-(x.1.length:Int)))<0)then some (-1)else(Ar (fun(v0:Int×Int)=>bif decide (v0.2<x.1.length)then if 0<=v0.2/\v0.2<x.1.length then(G34 (x.1.getD v0.2.toNat [],v0.1)).bind λe=>bif decide (e<0)then BD (some (-1))else some (LO.next (e,i64.wrap (v0.2+1)))else none else some (LO.brk 0 v0)) (i64.wrap (x.2-(x.1.length:Int)),0)).bind (LO.fin λA v0=>if A=0 then some v0.1 else none))
def t35:tfn E35 f35 S35=G35:=by kernel_rfl
def c35:FT prog 35 S35 G35:=AU AH (Ac a34 c34 An) Am Ao mixed func35 (by kernel_rfl) t35
def a35:Ae prog 35=true:=by kernel_rfl
def S7:Sig:=⟨[(true,yC),(false,yI)],[(false,0,yI)]⟩
def E7:A8:=⟨⟨TB,[⟨34,S34,G34⟩,⟨35,S35,G35⟩],[],[],⟨30,[2],0⟩,[]⟩,[],[]⟩
def G7(x:(Ca×Int)):Option Int:=((G34 (x.1.2.1,x.2)).bind λv0=>bif decide (v0<0)then some (-1)else(G34 (x.1.2.2.1,v0)).bind λB=>bif decide (B<0)then some (-1)else(G34 (x.1.2.2.2.1,B)).bind λA=>bif decide (A<0)then some (-1)else(G35 (x.1.2.2.2.2,A)).bind λe=>bif decide (e<0)then some (-1)else some e)
def t7:tfn E7 f7 S7=G7:=by kernel_rfl
def c7:FT prog 7 S7 G7:=AU AH (Ac a34 c34 (Ac a35 c35 An)) Am Ao mixed func7 (by kernel_rfl) t7
def a7:Ae prog 7=true:=by kernel_rfl
def S10:Sig:=⟨[(false,yL)],[(false,1,yL)]⟩
def E10:A8:=⟨⟨TB,[],[],[],⟨22,[],0⟩,[]⟩,[(3,[3,4],[1,1003001]),(3,[1000003,3,4],[])],[]⟩
def G10(x:LI):Option LI:=(if(0<=(x.length:Int))/\(((x.length:Int)<=(x.length:Int))/\(((8*(x.length:Int))<=281474976710656)/\((x.length:Int)<=9223372036854775807)))then(Ar (fun(v0:Int×LI)=>bif decide (v0.1<x.length)then if 0<=v0.1/\v0.1<x.length then if 0<=v0.1/\v0.1<v0.2.length then some (LO.next (i64.wrap (v0.1+1),v0.2.set v0.1.toNat (x.getD v0.1.toNat 0)))else none else none else some (LO.brk 0 v0)) (0,List.replicate (x.length:Int).toNat (0:Int))).bind (LO.fin λe v0=>if e=0 then some v0.2 else none)else none)
def t10:tfn E10 f10 S10=G10:=by kernel_rfl
def c10:FT prog 10 S10 G10:=AU AH An Am Ao mixed func10 (by kernel_rfl) t10
def a10:Ae prog 10=true:=by kernel_rfl
def S39:Sig:=⟨[(false,yM)],[(false,2,yM)]⟩
def E39:A8:=⟨⟨TB,[⟨10,S10,G10⟩],[],[],⟨23,[],0⟩,[]⟩,[(3,[3,4],[1,1003001]),(3,[1000003,3,4],[])],[]⟩
def G39(x:LL):Option LL:=(if(0<=(x.length:Int))/\(((x.length:Int)<=(x.length:Int))/\(((24*(x.length:Int))<=281474976710656)/\((x.length:Int)<=9223372036854775807)))then(Ar (fun(v0:Int×LL)=>bif decide (v0.1<x.length)then if 0<=v0.1/\v0.1<x.length then(G10 (x.getD v0.1.toNat [])).bind λe=>if 0<=v0.1/\v0.1<v0.2.length then some (LO.next (i64.wrap (v0.1+1),v0.2.set v0.1.toNat e))else none else none else some (LO.brk 0 v0)) (0,List.replicate (x.length:Int).toNat [])).bind (LO.fin λA v0=>if A=0 then some v0.2 else none)else none)
def t39:tfn E39 f39 S39=G39:=by kernel_rfl
def c39:FT prog 39 S39 G39:=AU AH (Ac a10 c10 An) Am Ao mixed func39 (by kernel_rfl) t39
def a39:Ae prog 39=true:=by kernel_rfl
def S9:Sig:=⟨[(true,yC)],[(true,2,yC)]⟩
def E9:A8:=⟨⟨TB,[⟨10,S10,G10⟩,⟨39,S39,G39⟩],[],[],⟨24,[1],0⟩,[]⟩,[],[]⟩
def G9(x:Ca):Option Ca:=((G10 x.2.1).bind λv0=>(G10 x.2.2.1).bind λB=>(G10 x.2.2.2.1).bind λA=>(G39 x.2.2.2.2).bind λe=>some (x.1,v0,B,A,e))
def t9:tfn E9 f9 S9=G9:=by kernel_rfl
def c9:FT prog 9 S9 G9:=AU AH (Ac a10 c10 (Ac a39 c39 An)) Am Ao mixed func9 (by kernel_rfl) t9
def a9:Ae prog 9=true:=by kernel_rfl
def S150:Sig:=⟨[(false,yI),(false,yI),(false,yI)],[(false,0,.bool)]⟩
def E150:A8:=⟨⟨TB,[],[],[],⟨15,[],0⟩,[]⟩,[],[]⟩
def G150(x:(Int×Int×Int)):Option Bool:=(Option.bind (bif decide (x.2.1<=x.1)then some (decide (x.1<=x.2.2))else some false) (fun(v0:Bool)=>some v0))
def t150:tfn E150 f150 S150=G150:=by kernel_rfl
def c150:FT prog 150 S150 G150:=AU AH An Am Ao mixed func150 (by kernel_rfl) t150
def a150:Ae prog 150=true:=by kernel_rfl
def S125:Sig:=⟨[(false,yI),(false,yL)],[(false,0,.bool)]⟩
def E125:A8:=⟨⟨TB,[],[],[],⟨25,[],0⟩,[]⟩,[(2,[5],[]),(2,[1000002,5],[])],[]⟩
def G125(x:(Int×LI)):Option Bool:=((Ar (fun(v0:Int)=>bif decide (v0<x.2.length)then if 0<=v0/\v0<x.2.length then Option.bind (bif decide ((x.2.getD v0.toNat 0)<0)then some true else if 0<=v0/\v0<x.2.length then some (decide (x.1<=(x.2.getD v0.toNat 0)))else none) (fun(e:Bool)=>bif e then BD (some false)else some (LO.next (i64.wrap (v0+1))))else none else some (LO.brk 0 v0)) 0).bind (LO.fin λA v0=>if A=0 then some true else none))
def t125:tfn E125 f125 S125=G125:=by kernel_rfl
def c125:FT prog 125 S125 G125:=AU AH An Am Ao mixed func125 (by kernel_rfl) t125
def a125:Ae prog 125=true:=by kernel_rfl
def S151:Sig:=⟨[(false,yL),(false,yI),(false,yI)],[(false,0,.bool)]⟩
def E151:A8:=⟨⟨TB,[⟨125,S125,G125⟩],[],[],⟨16,[14],0⟩,[]⟩,[],[]⟩
def G151(x:Bx):Option Bool:=(Option.bind (bif decide ((x.1.length:Int)=x.2.1)then(G125 (x.2.2,x.1)).bind λv0=>some v0 else some false) (fun(v0:Bool)=>some v0))
def t151:tfn E151 f151 S151=G151:=by kernel_rfl
def c151:FT prog 151 S151 G151:=AU AH (Ac a125 c125 An) Am Ao mixed func151 (by kernel_rfl) t151
def a151:Ae prog 151=true:=by kernel_rfl
def S88:Sig:=⟨[(true,yC)],[(false,0,.bool)]⟩
def E88:A8:=⟨⟨TB,[⟨150,S150,G150⟩,⟨125,S125,G125⟩,⟨151,S151,G151⟩],[],[],⟨159,[1,25,34,54],0⟩,[]⟩,[(7,[4],[2000003]),(7,[1000007,3,4],[]),(12,[5],[2000003]),(12,[1000012,3,5],[]),(17,[6],[2000003,2000005]),(17,[1000017,3,5,6],[])],[]⟩
def G88(x:Ca):Option Bool:=((G150 (x.1,0,8)).bind λv0=>Option.bind (bif !v0 then some true else some (decide (40<(x.2.1.length:Int)))) (fun(Z:Bool)=>Option.bind (bif Z then some true else(G151 (x.2.1,(x.2.1.length:Int),x.1)).bind λJ=>some (!J)) (fun(J:Bool)=>Option.bind (bif J then some true else(G151 (x.2.2.1,(x.2.1.length:Int),x.1)).bind λF=>some (!F)) (fun(F:Bool)=>Option.bind (bif F then some true else some (!decide ((x.2.2.2.2.length:Int)=(x.2.1.length:Int)))) (fun(Y:Bool)=>bif Y then some false else Option.bind (bif !decide ((x.2.2.2.1.length:Int)=x.1)then some true else(G125 ((x.2.1.length:Int),x.2.2.2.1)).bind λE=>some (!E)) (fun(E:Bool)=>bif E then some false else(Ar (fun(B:Int)=>bif decide (B<x.1)then if 0<=B/\B<x.2.2.2.1.length then if 0<=(x.2.2.2.1.getD B.toNat 0)/\(x.2.2.2.1.getD B.toNat 0)<(x.2.1.length:Int)then Option.bind (bif !decide ((x.2.1.getD (x.2.2.2.1.getD B.toNat 0).toNat 0)=B)then some true else if 0<=B/\B<x.2.2.2.1.length then if 0<=(x.2.2.2.1.getD B.toNat 0)/\(x.2.2.2.1.getD B.toNat 0)<(x.2.2.1.length:Int)then some (!decide ((x.2.2.1.getD (x.2.2.2.1.getD B.toNat 0).toNat 0)=B))else none else none) (fun(e:Bool)=>bif e then BD (some false)else some (LO.next (i64.wrap (B+1))))else none else none else some (LO.brk 0 B)) 0).bind (LO.fin λi6 B=>if i6=0 then(Ar (fun(e:Int)=>bif decide (e<x.2.1.length)then if 0<=e/\e<x.2.2.2.2.length then bif !decide (((x.2.2.2.2.getD e.toNat []).length:Int)=(x.2.1.length:Int))then BD (some false)else(Ar (fun(A:Int)=>bif decide (A<x.2.1.length)then if 0<=e/\e<x.2.2.2.2.length then if 0<=A/\A<(x.2.2.2.2.getD e.toNat []).length then if 0<=e/\e<x.2.2.1.length then if 0<=A/\A<x.2.1.length then bif !decide ((x.2.2.1.getD e.toNat 0)=(x.2.1.getD A.toNat 0))then bif !decide (((x.2.2.2.2.getD e.toNat []).getD A.toNat 0)=(-1))then BD (BD (some false))else some (LO.next (i64.wrap (A+1)))else Option.bind (bif decide (((x.2.2.2.2.getD e.toNat []).getD A.toNat 0)<0)then some true else some (decide ((x.2.1.length:Int)<=((x.2.2.2.2.getD e.toNat []).getD A.toNat 0)))) (fun(W:Bool)=>Option.bind (bif W then some true else if 0<=((x.2.2.2.2.getD e.toNat []).getD A.toNat 0)/\((x.2.2.2.2.getD e.toNat []).getD A.toNat 0)<(x.2.1.length:Int)then if 0<=e/\e<x.2.1.length then some (!decide ((x.2.1.getD ((x.2.2.2.2.getD e.toNat []).getD A.toNat 0).toNat 0)=(x.2.1.getD e.toNat 0)))else none else none) (fun(U:Bool)=>Option.bind (bif U then some true else if 0<=((x.2.2.2.2.getD e.toNat []).getD A.toNat 0)/\((x.2.2.2.2.getD e.toNat []).getD A.toNat 0)<(x.2.2.1.length:Int)then if 0<=A/\A<x.2.2.1.length then some (!decide ((x.2.2.1.getD ((x.2.2.2.2.getD e.toNat []).getD A.toNat 0).toNat 0)=(x.2.2.1.getD A.toNat 0)))else none else none) (fun(O:Bool)=>bif O then BD (BD (some false))else some (LO.next (i64.wrap (A+1))))))else none else none else none else none else some (LO.brk 4 A)) 0).bind (LO.fin λi8 A=>if i8=4 then some (LO.next (i64.wrap (e+1)))else none)else none else some (LO.brk 2 e)) 0).bind (LO.fin λi7 e=>if i7=2 then some true else none)else none)))))))
def t88:tfn E88 f88 S88=G88:=by kernel_rfl
def c88:FT prog 88 S88 G88:=AU AH (Ac a150 c150 (Ac a125 c125 (Ac a151 c151 An))) Am Ao mixed func88 (by kernel_rfl) t88
def a88:Ae prog 88=true:=by kernel_rfl
def S89:Sig:=⟨[(true,yC)],[(false,0,yI),(false,0,yI),(false,0,yI),(false,0,yI)]⟩
def E89:A8:=⟨⟨TB,[],[],[],⟨131,[1],0⟩,[]⟩,[(3,[7],[2000006]),(3,[1000003,6,7],[]),(8,[8],[2000006]),(8,[1000008,6,8],[]),(11,[9],[2000006,2000008]),(11,[1000011,6,8,9],[]),(15,[10],[2000006,2000008,2000009]),(15,[1000015,6,8,9,10],[])],[]⟩
def G89(x:Ca):Option (Int×Int×Int×Int):=((Ar (fun(v0:Int)=>bif decide (v0<x.2.1.length)then if 0<=v0/\v0<x.2.1.length then if 0<=(x.2.1.getD v0.toNat 0)/\(x.2.1.getD v0.toNat 0)<(x.2.2.2.1.length:Int)then if 0<=(x.2.2.2.1.getD (x.2.1.getD v0.toNat 0).toNat 0)/\(x.2.2.2.1.getD (x.2.1.getD v0.toNat 0).toNat 0)<(x.2.2.2.2.length:Int)then if 0<=v0/\v0<(x.2.2.2.2.getD (x.2.2.2.1.getD (x.2.1.getD v0.toNat 0).toNat 0).toNat []).length then Option.bind (bif !decide (((x.2.2.2.2.getD (x.2.2.2.1.getD (x.2.1.getD v0.toNat 0).toNat 0).toNat []).getD v0.toNat 0)=v0)then some true else if 0<=v0/\v0<x.2.2.2.2.length then if 0<=v0/\v0<x.2.2.1.length then if 0<=(x.2.2.1.getD v0.toNat 0)/\(x.2.2.1.getD v0.toNat 0)<(x.2.2.2.1.length:Int)then if 0<=(x.2.2.2.1.getD (x.2.2.1.getD v0.toNat 0).toNat 0)/\(x.2.2.2.1.getD (x.2.2.1.getD v0.toNat 0).toNat 0)<((x.2.2.2.2.getD v0.toNat []).length:Int)then some (!decide (((x.2.2.2.2.getD v0.toNat []).getD (x.2.2.2.1.getD (x.2.2.1.getD v0.toNat 0).toNat 0).toNat 0)=v0))else none else none else none else none) (fun(A:Bool)=>bif A then BD (some (1,v0,0,0))else some (LO.next (i64.wrap (v0+1))))else none else none else none else none else some (LO.brk 0 v0)) 0).bind (LO.fin λU v0=>if U=0 then(Ar (fun(A:Int)=>bif decide (A<x.2.1.length)then(Ar (fun(e:Int)=>bif decide (e<x.2.1.length)then if 0<=A/\A<x.2.2.1.length then if 0<=e/\e<x.2.1.length then bif !decide ((x.2.2.1.getD A.toNat 0)=(x.2.1.getD e.toNat 0))then some (LO.next (i64.wrap (e+1)))else(Ar (fun(B:Int)=>bif decide (B<x.2.1.length)then if 0<=e/\e<x.2.2.1.length then if 0<=B/\B<x.2.1.length then Option.bind (bif decide ((x.2.2.1.getD e.toNat 0)=(x.2.1.getD B.toNat 0))then if 0<=A/\A<x.2.2.2.2.length then if 0<=e/\e<(x.2.2.2.2.getD A.toNat []).length then if 0<=((x.2.2.2.2.getD A.toNat []).getD e.toNat 0)/\((x.2.2.2.2.getD A.toNat []).getD e.toNat 0)<(x.2.2.2.2.length:Int)then if 0<=B/\B<(x.2.2.2.2.getD ((x.2.2.2.2.getD A.toNat []).getD e.toNat 0).toNat []).length then if 0<=A/\A<x.2.2.2.2.length then if 0<=e/\e<x.2.2.2.2.length then if 0<=B/\B<(x.2.2.2.2.getD e.toNat []).length then if 0<=((x.2.2.2.2.getD e.toNat []).getD B.toNat 0)/\((x.2.2.2.2.getD e.toNat []).getD B.toNat 0)<((x.2.2.2.2.getD A.toNat []).length:Int)then some (!decide (((x.2.2.2.2.getD ((x.2.2.2.2.getD A.toNat []).getD e.toNat 0).toNat []).getD B.toNat 0)=((x.2.2.2.2.getD A.toNat []).getD ((x.2.2.2.2.getD e.toNat []).getD B.toNat 0).toNat 0)))else none else none else none else none else none else none else none else none else some false) (fun(E:Bool)=>bif E then BD (BD (BD (some (2,A,e,B))))else some (LO.next (i64.wrap (B+1))))else none else none else some (LO.brk 6 B)) 0).bind (LO.fin λF B=>if F=6 then some (LO.next (i64.wrap (e+1)))else none)else none else none else some (LO.brk 4 e)) 0).bind (LO.fin λJ e=>if J=4 then some (LO.next (i64.wrap (A+1)))else none)else some (LO.brk 2 A)) 0).bind (LO.fin λO A=>if O=2 then some (0,0,0,0)else none)else none))
def t89:tfn E89 f89 S89=G89:=by kernel_rfl
def c89:FT prog 89 S89 G89:=AU AH An Am Ao mixed func89 (by kernel_rfl) t89
def a89:Ae prog 89=true:=by kernel_rfl
def S45:Sig:=⟨[(true,yC)],[(false,0,.bool)]⟩
def E45:A8:=⟨⟨TB,[⟨88,S88,G88⟩,⟨89,S89,G89⟩],[],[],⟨19,[1],0⟩,[]⟩,[],[]⟩
def G45(x:Ca):Option Bool:=((G88 x).bind λv0=>bif !v0 then some false else(G89 x).bind λe=>some (decide (e.1=0)))
def t45:tfn E45 f45 S45=G45:=by kernel_rfl
def c45:FT prog 45 S45 G45:=AU AH (Ac a88 c88 (Ac a89 c89 An)) Am Ao mixed func45 (by kernel_rfl) t45
def a45:Ae prog 45=true:=by kernel_rfl
def S70:Sig:=⟨[(true,yC),(false,yL)],[(false,0,yI)]⟩
def E70:A8:=⟨⟨TB,[⟨125,S125,G125⟩,⟨45,S45,G45⟩],[],[],⟨13,[2],0⟩,[]⟩,[],[]⟩
def G70(x:(Ca×LI)):Option Int:=((G45 x.1).bind λv0=>bif !v0 then some 1 else(G125 (x.1.1,x.2)).bind λe=>bif !e then some 2 else some 0)
def t70:tfn E70 f70 S70=G70:=by kernel_rfl
def c70:FT prog 70 S70 G70:=AU AH (Ac a125 c125 (Ac a45 c45 An)) Am Ao mixed func70 (by kernel_rfl) t70
def a70:Ae prog 70=true:=by kernel_rfl
def S171:Sig:=⟨[(true,yC),(false,yL)],[(false,0,yI)]⟩
def E171:A8:=⟨⟨TB,[⟨125,S125,G125⟩,⟨45,S45,G45⟩],[],[],⟨14,[2],0⟩,[]⟩,[],[]⟩
def G171(x:(Ca×LI)):Option Int:=((G45 x.1).bind λv0=>bif !v0 then some 1 else(G125 ((x.1.2.1.length:Int),x.2)).bind λe=>bif !e then some 2 else some 0)
def t171:tfn E171 f171 S171=G171:=by kernel_rfl
def c171:FT prog 171 S171 G171:=AU AH (Ac a125 c125 (Ac a45 c45 An)) Am Ao mixed func171 (by kernel_rfl) t171
def a171:Ae prog 171=true:=by kernel_rfl
def S172:Sig:=⟨[(false,yL)],[(false,0,.bool)]⟩
def E172:A8:=⟨⟨TB,[],[],[],⟨20,[],0⟩,[]⟩,[(2,[3],[]),(2,[1000002,3],[])],[]⟩
def G172(x:LI):Option Bool:=((Ar (fun(v0:Int)=>bif decide (v0<x.length)then if 0<=v0/\v0<x.length then if 0<=(i64.wrap (v0-1))/\(i64.wrap (v0-1))<(x.length:Int)then bif decide ((x.getD v0.toNat 0)<=(x.getD (i64.wrap (v0-1)).toNat 0))then BD (some false)else some (LO.next (i64.wrap (v0+1)))else none else none else some (LO.brk 0 v0)) 1).bind (LO.fin λe v0=>if e=0 then some true else none))
def t172:tfn E172 f172 S172=G172:=by kernel_rfl
def c172:FT prog 172 S172 G172:=AU AH An Am Ao mixed func172 (by kernel_rfl) t172
def a172:Ae prog 172=true:=by kernel_rfl
def S126:Sig:=⟨[(true,yC),(false,yL)],[(false,0,yI)]⟩
def E126:A8:=⟨⟨TB,[⟨171,S171,G171⟩,⟨172,S172,G172⟩],[],[],⟨17,[2,13],0⟩,[]⟩,[],[]⟩
def G126(x:(Ca×LI)):Option Int:=((G171 x).bind λv0=>Option.bind (bif decide (v0=0)then(G172 x.2).bind λe=>some (!e)else some false) (fun(e:Bool)=>bif e then some 5 else some v0))
def t126:tfn E126 f126 S126=G126:=by kernel_rfl
def c126:FT prog 126 S126 G126:=AU AH (Ac a171 c171 (Ac a172 c172 An)) Am Ao mixed func126 (by kernel_rfl) t126
def a126:Ae prog 126=true:=by kernel_rfl
def S73:Sig:=⟨[(false,yL),(false,yI)],[(false,0,.bool)]⟩
def E73:A8:=⟨⟨TB,[],[],[],⟨18,[],0⟩,[]⟩,[(2,[5],[]),(2,[1000002,5],[])],[]⟩
def G73(x:(LI×Int)):Option Bool:=((Ar (fun(v0:Int)=>bif decide (v0<x.1.length)then if 0<=v0/\v0<x.1.length then bif decide ((x.1.getD v0.toNat 0)=x.2)then BD (some true)else some (LO.next (i64.wrap (v0+1)))else none else some (LO.brk 0 v0)) 0).bind (LO.fin λe v0=>if e=0 then some false else none))
def t73:tfn E73 f73 S73=G73:=by kernel_rfl
def c73:FT prog 73 S73 G73:=AU AH An Am Ao mixed func73 (by kernel_rfl) t73
def a73:Ae prog 73=true:=by kernel_rfl
def S128:Sig:=⟨[(true,yC),(false,yI),(false,yI)],[(false,0,yI)]⟩
def E128:A8:=⟨⟨TB,[],[],[],⟨15,[3],0⟩,[]⟩,[],[]⟩
def G128(x:(Ca×Int×Int)):Option Int:=(if 0<=x.2.1/\x.2.1<x.1.2.2.2.2.length then if 0<=x.2.2/\x.2.2<(x.1.2.2.2.2.getD x.2.1.toNat []).length then some ((x.1.2.2.2.2.getD x.2.1.toNat []).getD x.2.2.toNat 0)else none else none)
def t128:tfn E128 f128 S128=G128:=by kernel_rfl
def c128:FT prog 128 S128 G128:=AU AH An Am Ao mixed func128 (by kernel_rfl) t128
def a128:Ae prog 128=true:=by kernel_rfl
def S173:Sig:=⟨[(true,yC),(false,yL)],[(false,0,yI),(false,0,yI),(false,0,yI)]⟩
def E173:A8:=⟨⟨TB,[⟨73,S73,G73⟩,⟨128,S128,G128⟩],[],[],⟨98,[2,86,87],0⟩,[]⟩,[(3,[7,8],[]),(3,[1000003,7,8],[]),(10,[9],[]),(10,[1000010,9],[]),(13,[10],[2000009]),(13,[1000013,9,10],[])],[]⟩
def G173(x:(Ca×LI)):Option (Int×Int×Int):=((Ar (fun(v0:Int×Int)=>bif decide (v0.2<x.1.1)then if 0<=v0.2/\v0.2<x.1.2.2.2.1.length then(G73 (x.2,x.1.2.2.2.1.getD v0.2.toNat 0)).bind λA=>Option.bind (bif !A then bif decide (v0.1<0)then some true else if 0<=v0.2/\v0.2<x.1.2.2.2.1.length then some (decide ((x.1.2.2.2.1.getD v0.2.toNat 0)<v0.1))else none else some false) (fun(e:Bool)=>bif e then if 0<=v0.2/\v0.2<x.1.2.2.2.1.length then some (LO.next (x.1.2.2.2.1.getD v0.2.toNat 0,i64.wrap (v0.2+1)))else none else some (LO.next (v0.1,i64.wrap (v0.2+1))))else none else some (LO.brk 0 v0)) (-1,0)).bind (LO.fin λO v0=>if O=0 then bif decide (0<=v0.1)then some (1,v0.1,-1)else(Ar (fun(A:Int)=>bif decide (A<x.2.length)then(Ar (fun(e:Int)=>bif decide (e<x.2.length)then if 0<=A/\A<x.2.length then if 0<=(x.2.getD A.toNat 0)/\(x.2.getD A.toNat 0)<(x.1.2.2.1.length:Int)then if 0<=e/\e<x.2.length then if 0<=(x.2.getD e.toNat 0)/\(x.2.getD e.toNat 0)<(x.1.2.1.length:Int)then Option.bind (bif decide ((x.1.2.2.1.getD (x.2.getD A.toNat 0).toNat 0)=(x.1.2.1.getD (x.2.getD e.toNat 0).toNat 0))then if 0<=A/\A<x.2.length then if 0<=e/\e<x.2.length then(G128 (x.1,x.2.getD A.toNat 0,x.2.getD e.toNat 0)).bind λB=>(G73 (x.2,B)).bind λE=>some (!E)else none else none else some false) (fun(B:Bool)=>bif B then if 0<=A/\A<x.2.length then if 0<=e/\e<x.2.length then BD (BD (some (1,x.2.getD A.toNat 0,x.2.getD e.toNat 0)))else none else none else some (LO.next (i64.wrap (e+1))))else none else none else none else none else some (LO.brk 4 e)) 0).bind (LO.fin λF e=>if F=4 then some (LO.next (i64.wrap (A+1)))else none)else some (LO.brk 2 A)) 0).bind (LO.fin λJ A=>if J=2 then some (0,-1,-1)else none)else none))
def t173:tfn E173 f173 S173=G173:=by kernel_rfl
def c173:FT prog 173 S173 G173:=AU AH (Ac a73 c73 (Ac a128 c128 An)) Am Ao mixed func173 (by kernel_rfl) t173
def a173:Ae prog 173=true:=by kernel_rfl
def S72:Sig:=⟨[(true,yC),(false,yI),(false,yI)],[(false,1,yL)]⟩
def E72:A8:=⟨⟨TB,[],[],[],⟨38,[3],0⟩,[]⟩,[(3,[7,8],[1,1007001]),(3,[1000003,7,8],[])],[]⟩
def G72(x:(Ca×Int×Int)):Option LI:=((Ar (fun(v0:Int×LI)=>bif decide (v0.1<x.1.2.1.length)then if 0<=v0.1/\v0.1<x.1.2.1.length then Option.bind (bif decide ((x.1.2.1.getD v0.1.toNat 0)=x.2.1)then if 0<=v0.1/\v0.1<x.1.2.2.1.length then some (decide ((x.1.2.2.1.getD v0.1.toNat 0)=x.2.2))else none else some false) (fun(e:Bool)=>bif e then if(v0.2.length+(v0.1::[]).length)<=17592186044416 then some (LO.next (i64.wrap (v0.1+1),v0.2++(v0.1::[])))else none else some (LO.next (i64.wrap (v0.1+1),v0.2)))else none else some (LO.brk 0 v0)) (0,[])).bind (LO.fin λA v0=>if A=0 then some v0.2 else none))
def t72:tfn E72 f72 S72=G72:=by kernel_rfl
def c72:FT prog 72 S72 G72:=AU AH An Am Ao mixed func72 (by kernel_rfl) t72
def a72:Ae prog 72=true:=by kernel_rfl
def S144:Sig:=⟨[(true,yC),(false,yL),(false,yI),(false,yI)],[(false,0,yI),(false,0,yI),(false,0,yI),(false,0,.bool)]⟩
def E144:A8:=⟨⟨TB,[⟨73,S73,G73⟩,⟨128,S128,G128⟩,⟨72,S72,G72⟩],[],[],⟨83,[4,64,71],0⟩,[]⟩,[(2,[12],[]),(2,[1000002,12],[]),(6,[13,14,15],[2000012,1013000,1014001]),(6,[1000006,12,13,14,15],[]),(9,[13,14,16],[2000012,1013000,1014001,2000015]),(9,[1000009,12,13,14,15,16],[])],[]⟩
def G144(x:(Ca×Bx)):Option (Int×Int×Int×Bool):=((Ar (fun(v0:Int)=>bif decide (v0<x.1.1)then if 0<=x.2.2.1/\x.2.2.1<x.1.2.1.length then(G72 (x.1,v0,x.1.2.1.getD x.2.2.1.toNat 0)).bind λB=>if 0<=x.2.2.2/\x.2.2.2<x.1.2.1.length then(G72 (x.1,v0,x.1.2.1.getD x.2.2.2.toNat 0)).bind λE=>(Ar (fun(e:Int)=>bif decide (e<B.length)then(Ar (fun(A:Int)=>bif decide (A<E.length)then if 0<=e/\e<B.length then(G73 (x.2.1,B.getD e.toNat 0)).bind λO=>Option.bind (bif O then if 0<=e/\e<B.length then(G128 (x.1,B.getD e.toNat 0,x.2.2.1)).bind λF=>if 0<=A/\A<E.length then(G128 (x.1,E.getD A.toNat 0,x.2.2.2)).bind λJ=>some (decide (F=J))else none else none else some false) (fun(F:Bool)=>bif F then if 0<=e/\e<B.length then if 0<=A/\A<E.length then BD (BD (BD (some (v0,B.getD e.toNat 0,E.getD A.toNat 0,true))))else none else none else some (LO.next (i64.wrap (A+1))))else none else some (LO.brk 4 A)) 0).bind (LO.fin λU A=>if U=4 then some (LO.next (i64.wrap (e+1)))else none)else some (LO.brk 2 e)) 0).bind (LO.fin λW e=>if W=2 then some (LO.next (i64.wrap (v0+1)))else none)else none else none else some (LO.brk 0 v0)) 0).bind (LO.fin λY v0=>if Y=0 then some (0,0,0,false)else none))
def t144:tfn E144 f144 S144=G144:=by kernel_rfl
def c144:FT prog 144 S144 G144:=AU AH (Ac a73 c73 (Ac a128 c128 (Ac a72 c72 An))) Am Ao mixed func144 (by kernel_rfl) t144
def a144:Ae prog 144=true:=by kernel_rfl
def S174:Sig:=⟨[(true,yC),(false,yI),(false,yI)],[(false,0,.bool)]⟩
def E174:A8:=⟨⟨TB,[],[],[],⟨31,[3],0⟩,[]⟩,[],[]⟩
def G174(x:(Ca×Int×Int)):Option Bool:=(if 0<=x.2.1/\x.2.1<x.1.2.1.length then if 0<=x.2.2/\x.2.2<x.1.2.1.length then Option.bind (bif decide ((x.1.2.1.getD x.2.1.toNat 0)=(x.1.2.1.getD x.2.2.toNat 0))then if 0<=x.2.1/\x.2.1<x.1.2.2.1.length then if 0<=x.2.2/\x.2.2<x.1.2.2.1.length then some (decide ((x.1.2.2.1.getD x.2.1.toNat 0)=(x.1.2.2.1.getD x.2.2.toNat 0)))else none else none else some false) (fun(v0:Bool)=>some v0)else none else none)
def t174:tfn E174 f174 S174=G174:=by kernel_rfl
def c174:FT prog 174 S174 G174:=AU AH An Am Ao mixed func174 (by kernel_rfl) t174
def a174:Ae prog 174=true:=by kernel_rfl
def S175:Sig:=⟨[(true,yC),(false,yL),(false,yI),(false,yI)],[(false,0,.bool)]⟩
def E175:A8:=⟨⟨TB,[⟨128,S128,G128⟩],[],[],⟨91,[4,41,48,81,88],0⟩,[]⟩,[(3,[9,10],[]),(3,[1000003,9,10],[]),(9,[11],[]),(9,[1000009,11],[])],[]⟩
def G175(x:(Ca×Bx)):Option Bool:=((Ar (fun(v0:Bool×Int)=>bif decide (v0.2<x.2.1.length)then Option.bind (bif v0.1 then some true else if 0<=v0.2/\v0.2<x.2.1.length then if 0<=(x.2.1.getD v0.2.toNat 0)/\(x.2.1.getD v0.2.toNat 0)<(x.1.2.1.length:Int)then if 0<=x.2.2.1/\x.2.2.1<x.1.2.2.1.length then bif decide ((x.1.2.1.getD (x.2.1.getD v0.2.toNat 0).toNat 0)=(x.1.2.2.1.getD x.2.2.1.toNat 0))then if 0<=v0.2/\v0.2<x.2.1.length then(G128 (x.1,x.2.2.1,x.2.1.getD v0.2.toNat 0)).bind λe=>if 0<=v0.2/\v0.2<x.2.1.length then(G128 (x.1,x.2.2.2,x.2.1.getD v0.2.toNat 0)).bind λA=>some (decide (e=A))else none else none else some false else none else none else none) (fun(e:Bool)=>some (LO.next (e,i64.wrap (v0.2+1))))else some (LO.brk 0 v0)) (false,0)).bind (LO.fin λF v0=>if F=0 then bif !v0.1 then some true else(Ar (fun(e:Int)=>bif decide (e<x.2.1.length)then if 0<=e/\e<x.2.1.length then if 0<=(x.2.1.getD e.toNat 0)/\(x.2.1.getD e.toNat 0)<(x.1.2.2.1.length:Int)then if 0<=x.2.2.1/\x.2.2.1<x.1.2.1.length then Option.bind (bif decide ((x.1.2.2.1.getD (x.2.1.getD e.toNat 0).toNat 0)=(x.1.2.1.getD x.2.2.1.toNat 0))then if 0<=e/\e<x.2.1.length then(G128 (x.1,x.2.1.getD e.toNat 0,x.2.2.1)).bind λA=>if 0<=e/\e<x.2.1.length then(G128 (x.1,x.2.1.getD e.toNat 0,x.2.2.2)).bind λB=>some (decide (A=B))else none else none else some false) (fun(A:Bool)=>bif A then BD (some true)else some (LO.next (i64.wrap (e+1))))else none else none else none else some (LO.brk 2 e)) 0).bind (LO.fin λE e=>if E=2 then some false else none)else none))
def t175:tfn E175 f175 S175=G175:=by kernel_rfl
def c175:FT prog 175 S175 G175:=AU AH (Ac a128 c128 An) Am Ao mixed func175 (by kernel_rfl) t175
def a175:Ae prog 175=true:=by kernel_rfl
def S127:Sig:=⟨[(true,yC),(false,yL)],[(false,0,yI),(false,0,yI),(false,0,yI)]⟩
def E127:A8:=⟨⟨TB,[⟨173,S173,G173⟩,⟨144,S144,G144⟩,⟨174,S174,G174⟩,⟨175,S175,G175⟩],[],[],⟨105,[2,100],0⟩,[]⟩,[(6,[11],[2000010]),(6,[1000006,10,11],[]),(9,[12],[2000010,2000011]),(9,[1000009,10,11,12],[]),(16,[17],[2000010]),(16,[1000016,10,17],[]),(19,[18],[2000010,2000017]),(19,[1000019,10,17,18],[])],[]⟩
def G127(x:(Ca×LI)):Option (Int×Int×Int):=((G173 x).bind λv0=>bif !decide (v0.1=0)then some v0 else(Ar (fun(B:Int)=>bif decide (B<x.1.2.1.length)then(Ar (fun(e:Int)=>bif decide (e<x.2.length)then if 0<=B/\B<x.1.2.2.1.length then if 0<=e/\e<x.2.length then if 0<=(x.2.getD e.toNat 0)/\(x.2.getD e.toNat 0)<(x.1.2.2.1.length:Int)then bif decide ((x.1.2.2.1.getD B.toNat 0)=(x.1.2.2.1.getD (x.2.getD e.toNat 0).toNat 0))then if 0<=e/\e<x.2.length then(G144 (x.1,x.2,B,x.2.getD e.toNat 0)).bind λA=>bif !A.2.2.2 then if 0<=e/\e<x.2.length then BD (BD (some (2,B,x.2.getD e.toNat 0)))else none else some (LO.next (i64.wrap (e+1)))else none else some (LO.next (i64.wrap (e+1)))else none else none else none else some (LO.brk 2 e)) 0).bind (LO.fin λF e=>if F=2 then some (LO.next (i64.wrap (B+1)))else none)else some (LO.brk 0 B)) 0).bind (LO.fin λU B=>if U=0 then(Ar (fun(e:Int)=>bif decide (e<x.1.2.1.length)then(Ar (fun(A:Int)=>bif decide (A<x.1.2.1.length)then(G174 (x.1,e,A)).bind λJ=>Option.bind (bif J then(G175 (x.1,x.2,e,A)).bind λE=>some (!E)else some false) (fun(E:Bool)=>bif E then BD (BD (some (3,e,A)))else some (LO.next (i64.wrap (A+1))))else some (LO.brk 6 A)) (i64.wrap (e+1))).bind (LO.fin λO A=>if O=6 then some (LO.next (i64.wrap (e+1)))else none)else some (LO.brk 4 e)) 0).bind (LO.fin λF e=>if F=4 then some (0,-1,-1)else none)else none))
def t127:tfn E127 f127 S127=G127:=by kernel_rfl
def c127:FT prog 127 S127 G127:=AU AH (Ac a173 c173 (Ac a144 c144 (Ac a174 c174 (Ac a175 c175 An)))) Am Ao mixed func127 (by kernel_rfl) t127
def a127:Ae prog 127=true:=by kernel_rfl
def S71:Sig:=⟨[(true,yC),(false,yL)],[(false,0,yI)]⟩
def E71:A8:=⟨⟨TB,[⟨126,S126,G126⟩,⟨127,S127,G127⟩],[],[],⟨24,[2],0⟩,[]⟩,[],[]⟩
def G71(x:(Ca×LI)):Option Int:=((G126 x).bind λv0=>bif decide (v0=0)then(G127 x).bind λe=>bif !decide (e.1=0)then some 5 else some v0 else some v0)
def t71:tfn E71 f71 S71=G71:=by kernel_rfl
def c71:FT prog 71 S71 G71:=AU AH (Ac a126 c126 (Ac a127 c127 An)) Am Ao mixed func71 (by kernel_rfl) t71
def a71:Ae prog 71=true:=by kernel_rfl
def S36:Sig:=⟨[(true,yC),(false,yL),(false,yI),(false,yI)],[(false,0,yI)]⟩
def E36:A8:=⟨⟨TB,[⟨70,S70,G70⟩,⟨71,S71,G71⟩],[],[],⟨21,[4],0⟩,[]⟩,[],[]⟩
def G36(x:(Ca×Bx)):Option Int:=((G70 (x.1,(x.2.2.1::(x.2.2.2::[])))).bind λv0=>bif decide (v0=0)then(G71 (x.1,x.2.1)).bind λe=>some e else some v0)
def t36:tfn E36 f36 S36=G36:=by kernel_rfl
def c36:FT prog 36 S36 G36:=AU AH (Ac a70 c70 (Ac a71 c71 An)) Am Ao mixed func36 (by kernel_rfl) t36
def a36:Ae prog 36=true:=by kernel_rfl
def S37:Sig:=⟨[(true,yC),(false,yL),(false,yI),(false,yI)],[(false,2,yM)]⟩
def E37:A8:=⟨⟨TB,[⟨73,S73,G73⟩,⟨72,S72,G72⟩],[],[],⟨64,[4,46],0⟩,[]⟩,[(3,[9,10],[1,1009001]),(3,[1000003,9,10],[]),(7,[9,11,12,13],[1,1009001,2000010,1011002,1012003]),(7,[1000007,9,10,11,12,13],[]),(10,[9,11,12,14],[1,1009001,2000010,1011002,1012003,2000013]),(10,[1000010,9,10,11,12,13,14],[])],[]⟩
def G37(x:(Ca×Bx)):Option LL:=((Ar (fun(v0:Int×LL)=>bif decide (v0.1<x.1.1)then(G72 (x.1,v0.1,x.2.2.1)).bind λB=>(G72 (x.1,v0.1,x.2.2.2)).bind λE=>(Ar (fun(e:Int×LL)=>bif decide (e.1<B.length)then(Ar (fun(A:Int×LL)=>Option.bind (bif decide (A.1<E.length)then if 0<=e.1/\e.1<B.length then(G73 (x.2.1,B.getD e.1.toNat 0)).bind λF=>some F else none else some false) (fun(F:Bool)=>bif F then if 0<=e.1/\e.1<B.length then if 0<=A.1/\A.1<E.length then if(A.2.length+((v0.1::((B.getD e.1.toNat 0)::((E.getD A.1.toNat 0)::[])))::[]).length)<=5864062014805 then some (LO.next (i64.wrap (A.1+1),A.2++((v0.1::((B.getD e.1.toNat 0)::((E.getD A.1.toNat 0)::[])))::[])))else none else none else none else some (LO.brk 4 A))) (0,e.2)).bind (LO.fin λJ A=>if J=4 then some (LO.next (i64.wrap (e.1+1),A.2))else none)else some (LO.brk 2 e)) (0,v0.2)).bind (LO.fin λO e=>if O=2 then some (LO.next (i64.wrap (v0.1+1),e.2))else none)else some (LO.brk 0 v0)) (0,[])).bind (LO.fin λU v0=>if U=0 then some v0.2 else none))
def t37:tfn E37 f37 S37=G37:=by kernel_rfl
def c37:FT prog 37 S37 G37:=AU AH (Ac a73 c73 (Ac a72 c72 An)) Am Ao mixed func37 (by kernel_rfl) t37
def a37:Ae prog 37=true:=by kernel_rfl
def S74:Sig:=⟨[(true,yC),(false,yL),(false,yL),(false,yL)],[(false,0,.bool)]⟩
def E74:A8:=⟨⟨TB,[⟨73,S73,G73⟩,⟨128,S128,G128⟩,⟨72,S72,G72⟩],[],[],⟨91,[4,68,79,88],0⟩,[]⟩,[(2,[9],[]),(2,[1000002,9],[]),(6,[10,11,12],[2000009,1010000,1011001]),(6,[1000006,9,10,11,12],[]),(9,[10,11,13],[2000009,1010000,1011001,2000012]),(9,[1000009,9,10,11,12,13],[])],[]⟩
def G74(x:(Ca×LI×LI×LI)):Option Bool:=((Ar (fun(v0:Int)=>bif decide (v0<x.1.1)then if(0:Int)<=(0:Int)/\0<(x.2.2.1.length:Int)then(G72 (x.1,v0,x.2.2.1.getD (0:Int).toNat 0)).bind λE=>if(0:Int)<=(0:Int)/\0<(x.2.2.2.length:Int)then(G72 (x.1,v0,x.2.2.2.getD (0:Int).toNat 0)).bind λB=>(Ar (fun(A:Int)=>bif decide (A<E.length)then(Ar (fun(e:Int)=>bif decide (e<B.length)then if 0<=A/\A<E.length then if(0:Int)<=(1:Int)/\1<(x.2.2.1.length:Int)then(G128 (x.1,E.getD A.toNat 0,x.2.2.1.getD (1:Int).toNat 0)).bind λO=>if 0<=e/\e<B.length then if(0:Int)<=(1:Int)/\1<(x.2.2.2.length:Int)then(G128 (x.1,B.getD e.toNat 0,x.2.2.2.getD (1:Int).toNat 0)).bind λW=>Option.bind (bif decide (O=W)then(G73 (x.2.1,O)).bind λJ=>some J else some false) (fun(J:Bool)=>Option.bind (bif J then if 0<=A/\A<E.length then if(0:Int)<=(2:Int)/\2<(x.2.2.1.length:Int)then(G128 (x.1,E.getD A.toNat 0,x.2.2.1.getD (2:Int).toNat 0)).bind λF=>if 0<=e/\e<B.length then if(0:Int)<=(2:Int)/\2<(x.2.2.2.length:Int)then(G128 (x.1,B.getD e.toNat 0,x.2.2.2.getD (2:Int).toNat 0)).bind λU=>some (decide (F=U))else none else none else none else none else some false) (fun(F:Bool)=>bif F then BD (BD (BD (some true)))else some (LO.next (i64.wrap (e+1)))))else none else none else none else none else some (LO.brk 4 e)) 0).bind (LO.fin λY e=>if Y=4 then some (LO.next (i64.wrap (A+1)))else none)else some (LO.brk 2 A)) 0).bind (LO.fin λZ A=>if Z=2 then some (LO.next (i64.wrap (v0+1)))else none)else none else none else some (LO.brk 0 v0)) 0).bind (LO.fin λi0 v0=>if i0=0 then some false else none))
def t74:tfn E74 f74 S74=G74:=by kernel_rfl
def c74:FT prog 74 S74 G74:=AU AH (Ac a73 c73 (Ac a128 c128 (Ac a72 c72 An))) Am Ao mixed func74 (by kernel_rfl) t74
def a74:Ae prog 74=true:=by kernel_rfl
def S176:Sig:=⟨[(false,yL),(false,yI)],[(false,0,yI)]⟩
def E176:A8:=⟨⟨TB,[],[],[],⟨19,[],0⟩,[]⟩,[(2,[5],[]),(2,[1000002,5],[])],[]⟩
def G176(x:(LI×Int)):Option Int:=((Ar (fun(v0:Int)=>bif decide (v0<x.1.length)then if 0<=v0/\v0<x.1.length then bif decide ((x.1.getD v0.toNat 0)=x.2)then BD (some v0)else some (LO.next (i64.wrap (v0+1)))else none else some (LO.brk 0 v0)) 0).bind (LO.fin λe v0=>if e=0 then some (-1)else none))
def t176:tfn E176 f176 S176=G176:=by kernel_rfl
def c176:FT prog 176 S176 G176:=AU AH An Am Ao mixed func176 (by kernel_rfl) t176
def a176:Ae prog 176=true:=by kernel_rfl
def S129:Sig:=⟨[(false,yL)],[(false,1,yL)]⟩
def E129:A8:=⟨⟨TB,[⟨176,S176,G176⟩],[],[],⟨37,[],0⟩,[]⟩,[(3,[3,4,5],[1,2,1003001,1004002]),(3,[1000003,3,4,5],[])],[]⟩
def G129(x:LI):Option LI:=((Ar (fun(v0:Int×LI×LI)=>bif decide (v0.1<x.length)then if 0<=v0.1/\v0.1<x.length then(G176 (v0.2.2,x.getD v0.1.toNat 0)).bind λe=>bif decide (e<0)then if 0<=v0.1/\v0.1<x.length then if(v0.2.2.length+((x.getD v0.1.toNat 0)::[]).length)<=17592186044416 then if(v0.2.1.length+((v0.2.2.length:Int)::[]).length)<=17592186044416 then some (LO.next (i64.wrap (v0.1+1),v0.2.1++((v0.2.2.length:Int)::[]),v0.2.2++((x.getD v0.1.toNat 0)::[])))else none else none else none else if(v0.2.1.length+(e::[]).length)<=17592186044416 then some (LO.next (i64.wrap (v0.1+1),v0.2.1++(e::[]),v0.2.2))else none else none else some (LO.brk 0 v0)) (0,[],[])).bind (LO.fin λA v0=>if A=0 then some v0.2.1 else none))
def t129:tfn E129 f129 S129=G129:=by kernel_rfl
def c129:FT prog 129 S129 G129:=AU AH (Ac a176 c176 An) Am Ao mixed func129 (by kernel_rfl) t129
def a129:Ae prog 129=true:=by kernel_rfl
def S75:Sig:=⟨[(false,yI),(false,yM)],[(false,1,yL)]⟩
def E75:A8:=⟨⟨TB,[⟨129,S129,G129⟩],[],[],⟨68,[],0⟩,[]⟩,[(3,[5,6],[1,1005001]),(3,[1000003,5,6],[]),(7,[5,7],[1,1005001]),(7,[1000007,5,7],[]),(11,[5,10],[1,1005001,2000007,2000008,2000009]),(11,[1000011,5,7,8,9,10],[])],[]⟩
def G75(x:(Int×LL)):Option LI:=((Ar (fun(v0:Int×LI)=>bif decide (v0.1<x.1)then if(v0.2.length+(v0.1::[]).length)<=17592186044416 then some (LO.next (i64.wrap (v0.1+1),v0.2++(v0.1::[])))else none else some (LO.brk 0 v0)) (0,[])).bind (LO.fin λJ v0=>if J=0 then(Ar (fun(e:Int×LI)=>bif decide (e.1<x.2.length)then if 0<=e.1/\e.1<x.2.length then if(0:Int)<=(0:Int)/\0<((x.2.getD e.1.toNat []).length:Int)then if 0<=((x.2.getD e.1.toNat []).getD (0:Int).toNat 0)/\((x.2.getD e.1.toNat []).getD (0:Int).toNat 0)<(e.2.length:Int)then if 0<=e.1/\e.1<x.2.length then if(0:Int)<=(1:Int)/\1<((x.2.getD e.1.toNat []).length:Int)then if 0<=((x.2.getD e.1.toNat []).getD (1:Int).toNat 0)/\((x.2.getD e.1.toNat []).getD (1:Int).toNat 0)<(e.2.length:Int)then(Ar (fun(A:Int×LI)=>Option.bind (bif decide (A.1<A.2.length)then some (!decide ((e.2.getD ((x.2.getD e.1.toNat []).getD (0:Int).toNat 0).toNat 0)=(e.2.getD ((x.2.getD e.1.toNat []).getD (1:Int).toNat 0).toNat 0)))else some false) (fun(B:Bool)=>bif B then if 0<=A.1/\A.1<A.2.length then bif decide ((A.2.getD A.1.toNat 0)=(e.2.getD ((x.2.getD e.1.toNat []).getD (1:Int).toNat 0).toNat 0))then if 0<=A.1/\A.1<A.2.length then some (LO.next (i64.wrap (A.1+1),A.2.set A.1.toNat (e.2.getD ((x.2.getD e.1.toNat []).getD (0:Int).toNat 0).toNat 0)))else none else some (LO.next (i64.wrap (A.1+1),A.2))else none else some (LO.brk 4 A))) (0,e.2)).bind (LO.fin λE A=>if E=4 then some (LO.next (i64.wrap (e.1+1),A.2))else none)else none else none else none else none else none else none else some (LO.brk 2 e)) (0,v0.2)).bind (LO.fin λF e=>if F=2 then(G129 e.2).bind λA=>some A else none)else none))
def t75:tfn E75 f75 S75=G75:=by kernel_rfl
def c75:FT prog 75 S75 G75:=AU AH (Ac a129 c129 An) Am Ao mixed func75 (by kernel_rfl) t75
def a75:Ae prog 75=true:=by kernel_rfl
def S38:Sig:=⟨[(true,yC),(false,yL),(false,yM)],[(false,1,yL)]⟩
def E38:A8:=⟨⟨TB,[⟨74,S74,G74⟩,⟨75,S75,G75⟩],[],[],⟨43,[3],0⟩,[]⟩,[(3,[7,8],[1,1007001]),(3,[1000003,7,8],[]),(6,[7,9],[1,1007001,2000008]),(6,[1000006,7,8,9],[])],[]⟩
def G38(x:(Ca×LI×LL)):Option LI:=((Ar (fun(v0:Int×LL)=>bif decide (v0.1<x.2.2.length)then(Ar (fun(e:Int×LL)=>bif decide (e.1<v0.1)then if 0<=v0.1/\v0.1<x.2.2.length then if 0<=e.1/\e.1<x.2.2.length then(G74 (x.1,x.2.1,x.2.2.getD v0.1.toNat [],x.2.2.getD e.1.toNat [])).bind λA=>bif A then if True then if(e.2.length+((e.1::(v0.1::[]))::[]).length)<=5864062014805 then some (LO.next (i64.wrap (e.1+1),e.2++((e.1::(v0.1::[]))::[])))else none else none else some (LO.next (i64.wrap (e.1+1),e.2))else none else none else some (LO.brk 2 e)) (0,v0.2)).bind (LO.fin λB e=>if B=2 then some (LO.next (i64.wrap (v0.1+1),e.2))else none)else some (LO.brk 0 v0)) (0,[])).bind (LO.fin λE v0=>if E=0 then(G75 ((x.2.2.length:Int),v0.2)).bind λe=>some e else none))
def t38:tfn E38 f38 S38=G38:=by kernel_rfl
def c38:FT prog 38 S38 G38:=AU AH (Ac a74 c74 (Ac a75 c75 An)) Am Ao mixed func38 (by kernel_rfl) t38
def a38:Ae prog 38=true:=by kernel_rfl
def S8:Sig:=⟨[(true,yC),(false,yL),(false,yI),(false,yI)],[(false,1,yL),(false,0,yI)]⟩
def E8:A8:=⟨⟨TB,[⟨36,S36,G36⟩,⟨37,S37,G37⟩,⟨38,S38,G38⟩],[],[],⟨32,[4],0⟩,[]⟩,[],[]⟩
def G8(x:(Ca×Bx)):Option (LI×Int):=((G36 x).bind λv0=>bif !decide (v0=0)then some ([],v0)else(G37 x).bind λe=>bif decide (200<(e.length:Int))then some ([],3)else(G38 (x.1,x.2.1,e)).bind λA=>some (A,0))
def t8:tfn E8 f8 S8=G8:=by kernel_rfl
def c8:FT prog 8 S8 G8:=AU AH (Ac a36 c36 (Ac a37 c37 (Ac a38 c38 An))) Am Ao mixed func8 (by kernel_rfl) t8
def a8:Ae prog 8=true:=by kernel_rfl
def S99:Sig:=⟨[(false,(.ptr yC))],[(false,0,yI)]⟩
def E99:A8:=⟨⟨TB,[],[],[],⟨8,[],0⟩,[]⟩,[],[]⟩
def G99(x:Ca):Option Int:=(some (x.2.1.length:Int))
def t99:tfn E99 f99 S99=G99:=by kernel_rfl
def c99:FT prog 99 S99 G99:=AU AH An Am Ao mixed func99 (by kernel_rfl) t99
def a99:Ae prog 99=true:=by kernel_rfl
def S153:Sig:=⟨[(false,yI),(false,yI),(false,yI)],[(false,0,.bool)]⟩
def E153:A8:=⟨⟨TB,[],[],[],⟨15,[],0⟩,[]⟩,[],[]⟩
def G153(x:(Int×Int×Int)):Option Bool:=(Option.bind (bif decide (x.2.1<=x.1)then some (decide (x.1<=x.2.2))else some false) (fun(v0:Bool)=>some v0))
def t153:tfn E153 f153 S153=G153:=by kernel_rfl
def c153:FT prog 153 S153 G153:=AU AH An Am Ao mixed func153 (by kernel_rfl) t153
def a153:Ae prog 153=true:=by kernel_rfl
def S131:Sig:=⟨[(false,yL),(false,yI)],[(false,0,.bool)]⟩
def E131:A8:=⟨⟨TB,[⟨153,S153,G153⟩],[],[],⟨19,[],0⟩,[]⟩,[(2,[9],[2000007,2000008]),(2,[1000002,7,8,9],[])],[]⟩
def G131(x:(LI×Int)):Option Bool:=((Ar (fun(v0:Int)=>bif decide (v0<x.1.length)then if 0<=v0/\v0<x.1.length then(G153 (x.1.getD v0.toNat 0,0,i64.wrap (x.2-1))).bind λe=>bif !e then BD (some false)else some (LO.next (i64.wrap (v0+1)))else none else some (LO.brk 0 v0)) 0).bind (LO.fin λA v0=>if A=0 then some true else none))
def t131:tfn E131 f131 S131=G131:=by kernel_rfl
def c131:FT prog 131 S131 G131:=AU AH (Ac a153 c153 An) Am Ao mixed func131 (by kernel_rfl) t131
def a131:Ae prog 131=true:=by kernel_rfl
def S135:Sig:=⟨[(false,(.ptr yC)),(false,yI)],[(true,0,(.pair yI yI))]⟩
def E135:A8:=⟨⟨TB,[],[],[],⟨20,[],0⟩,[]⟩,[],[]⟩
def G135(x:(Ca×Int)):Option (Int×Int):=(if 0<=x.2/\x.2<x.1.2.1.length then if 0<=x.2/\x.2<x.1.2.2.1.length then some (x.1.2.1.getD x.2.toNat 0,x.1.2.2.1.getD x.2.toNat 0)else none else none)
def t135:tfn E135 f135 S135=G135:=by kernel_rfl
def c135:FT prog 135 S135 G135:=AU AH An Am Ao mixed func135 (by kernel_rfl) t135
def a135:Ae prog 135=true:=by kernel_rfl
def S97:Sig:=⟨[(false,(.ptr yC))],[(false,0,.bool)]⟩
def E97:A8:=⟨⟨TB,[⟨99,S99,G99⟩,⟨153,S153,G153⟩,⟨131,S131,G131⟩,⟨135,S135,G135⟩],[],[],⟨167,[40,52,71,147],0⟩,[]⟩,[(7,[88],[2000003,2000086,2000087]),(7,[1000007,3,86,87,88],[]),(13,[106],[2000003,2000104,2000105]),(13,[1000013,3,104,105,106],[]),(18,[117],[2000003,2000006,2000104,2000105,2000106,2000115,2000116]),(18,[1000018,3,6,104,105,106,115,116,117],[])],[]⟩
def G97(x:Ca):Option Bool:=((G99 x).bind λv0=>(G153 (x.1,0,8)).bind λv1=>Option.bind (bif !v1 then some true else some (decide (40<v0))) (fun(v2:Bool)=>Option.bind (bif v2 then some true else some (!decide ((x.2.2.1.length:Int)=v0))) (fun(Z:Bool)=>Option.bind (bif Z then some true else(G131 (x.2.1,x.1)).bind λO=>some (!O)) (fun(O:Bool)=>Option.bind (bif O then some true else(G131 (x.2.2.1,x.1)).bind λJ=>some (!J)) (fun(J:Bool)=>bif J then some false else Option.bind (bif !decide ((x.2.2.2.1.length:Int)=x.1)then some true else(G131 (x.2.2.2.1,v0)).bind λF=>some (!F)) (fun(F:Bool)=>Option.bind (bif F then some true else some (!decide ((x.2.2.2.2.length:Int)=v0))) (fun(Y:Bool)=>bif Y then some false else(Ar (fun(B:Int)=>bif decide (B<x.2.2.2.1.length)then if 0<=B/\B<x.2.2.2.1.length then(G135 (x,x.2.2.2.1.getD B.toNat 0)).bind λA=>bif !((decide (A.1=B))&&((decide (A.2=B))&&true))then BD (some false)else some (LO.next (i64.wrap (B+1)))else none else some (LO.brk 0 B)) 0).bind (LO.fin λi8 B=>if i8=0 then(Ar (fun(A:Int)=>bif decide (A<x.2.2.2.2.length)then if 0<=A/\A<x.2.2.2.2.length then bif !decide (((x.2.2.2.2.getD A.toNat []).length:Int)=v0)then BD (some false)else(Ar (fun(e:Int)=>bif decide (e<(x.2.2.2.2.getD A.toNat []).length)then if 0<=e/\e<(x.2.2.2.2.getD A.toNat []).length then if 0<=A/\A<x.2.2.1.length then if 0<=e/\e<x.2.1.length then bif !decide ((x.2.2.1.getD A.toNat 0)=(x.2.1.getD e.toNat 0))then bif !decide (((x.2.2.2.2.getD A.toNat []).getD e.toNat 0)=(-1))then BD (BD (some false))else some (LO.next (i64.wrap (e+1)))else(G153 ((x.2.2.2.2.getD A.toNat []).getD e.toNat 0,0,i64.wrap (v0-1))).bind λU=>Option.bind (bif !U then some true else(G135 (x,(x.2.2.2.2.getD A.toNat []).getD e.toNat 0)).bind λE=>if 0<=A/\A<x.2.1.length then if 0<=e/\e<x.2.2.1.length then some (!((decide (E.1=(x.2.1.getD A.toNat 0)))&&((decide (E.2=(x.2.2.1.getD e.toNat 0)))&&true)))else none else none) (fun(E:Bool)=>bif E then BD (BD (some false))else some (LO.next (i64.wrap (e+1))))else none else none else none else some (LO.brk 4 e)) 0).bind (LO.fin λW e=>if W=4 then some (LO.next (i64.wrap (A+1)))else none)else none else some (LO.brk 2 A)) 0).bind (LO.fin λi9 A=>if i9=2 then some true else none)else none))))))))
def t97:tfn E97 f97 S97=G97:=by kernel_rfl
def c97:FT prog 97 S97 G97:=AU AH (Ac a99 c99 (Ac a153 c153 (Ac a131 c131 (Ac a135 c135 An)))) Am Ao mixed func97 (by kernel_rfl) t97
def a97:Ae prog 97=true:=by kernel_rfl
def S81:Sig:=⟨[(false,(.ptr yC)),(false,yI),(false,yI)],[(false,0,yI)]⟩
def E81:A8:=⟨⟨TB,[],[],[],⟨17,[],0⟩,[]⟩,[],[]⟩
def G81(x:(Ca×Int×Int)):Option Int:=(if 0<=x.2.1/\x.2.1<x.1.2.2.2.2.length then if 0<=x.2.2/\x.2.2<(x.1.2.2.2.2.getD x.2.1.toNat []).length then some ((x.1.2.2.2.2.getD x.2.1.toNat []).getD x.2.2.toNat 0)else none else none)
def t81:tfn E81 f81 S81=G81:=by kernel_rfl
def c81:FT prog 81 S81 G81:=AU AH An Am Ao mixed func81 (by kernel_rfl) t81
def a81:Ae prog 81=true:=by kernel_rfl
def S98:Sig:=⟨[(false,(.ptr yC))],[(false,0,yI),(false,0,yI),(false,0,yI),(false,0,yI)]⟩
def E98:A8:=⟨⟨TB,[⟨99,S99,G99⟩,⟨81,S81,G81⟩],[],[],⟨102,[52,87,89,95,96],0⟩,[]⟩,[(3,[7],[2000006]),(3,[1000003,6,7],[]),(8,[8],[2000006]),(8,[1000008,6,8],[]),(11,[9],[2000006,2000008]),(11,[1000011,6,8,9],[]),(15,[10],[2000006,2000008,2000009]),(15,[1000015,6,8,9,10],[])],[]⟩
def G98(x:Ca):Option (Int×Int×Int×Int):=((G99 x).bind λv0=>(Ar (fun(e:Int)=>bif decide (e<v0)then if 0<=e/\e<x.2.1.length then if 0<=(x.2.1.getD e.toNat 0)/\(x.2.1.getD e.toNat 0)<(x.2.2.2.1.length:Int)then(G81 (x,x.2.2.2.1.getD (x.2.1.getD e.toNat 0).toNat 0,e)).bind λB=>Option.bind (bif !decide (B=e)then some true else if 0<=e/\e<x.2.2.1.length then if 0<=(x.2.2.1.getD e.toNat 0)/\(x.2.2.1.getD e.toNat 0)<(x.2.2.2.1.length:Int)then(G81 (x,e,x.2.2.2.1.getD (x.2.2.1.getD e.toNat 0).toNat 0)).bind λA=>some (!decide (A=e))else none else none) (fun(A:Bool)=>bif A then BD (some (1,e,0,0))else some (LO.next (i64.wrap (e+1))))else none else none else some (LO.brk 0 e)) 0).bind (LO.fin λi1 e=>if i1=0 then(Ar (fun(B:Int)=>bif decide (B<v0)then(Ar (fun(A:Int)=>bif decide (A<v0)then(G81 (x,B,A)).bind λY=>bif decide (Y<0)then some (LO.next (i64.wrap (A+1)))else(Ar (fun(E:Int)=>bif decide (E<v0)then(G81 (x,A,E)).bind λW=>Option.bind (bif decide (0<=W)then(G81 (x,B,A)).bind λF=>(G81 (x,F,E)).bind λU=>(G81 (x,A,E)).bind λO=>(G81 (x,B,O)).bind λJ=>some (!decide (U=J))else some false) (fun(F:Bool)=>bif F then BD (BD (BD (some (2,B,A,E))))else some (LO.next (i64.wrap (E+1))))else some (LO.brk 6 E)) 0).bind (LO.fin λZ E=>if Z=6 then some (LO.next (i64.wrap (A+1)))else none)else some (LO.brk 4 A)) 0).bind (LO.fin λi3 A=>if i3=4 then some (LO.next (i64.wrap (B+1)))else none)else some (LO.brk 2 B)) 0).bind (LO.fin λi2 B=>if i2=2 then some (0,0,0,0)else none)else none))
def t98:tfn E98 f98 S98=G98:=by kernel_rfl
def c98:FT prog 98 S98 G98:=AU AH (Ac a99 c99 (Ac a81 c81 An)) Am Ao mixed func98 (by kernel_rfl) t98
def a98:Ae prog 98=true:=by kernel_rfl
def S52:Sig:=⟨[(false,(.ptr yC))],[(false,0,.bool)]⟩
def E52:A8:=⟨⟨TB,[⟨97,S97,G97⟩,⟨98,S98,G98⟩],[],[],⟨19,[],0⟩,[]⟩,[],[]⟩
def G52(x:Ca):Option Bool:=((G97 x).bind λv0=>bif !v0 then some false else(G98 x).bind λe=>some (decide (e.1=0)))
def t52:tfn E52 f52 S52=G52:=by kernel_rfl
def c52:FT prog 52 S52 G52:=AU AH (Ac a97 c97 (Ac a98 c98 An)) Am Ao mixed func52 (by kernel_rfl) t52
def a52:Ae prog 52=true:=by kernel_rfl
def S130:Sig:=⟨[(false,(.ptr yC)),(false,yL)],[(false,0,yI)]⟩
def E130:A8:=⟨⟨TB,[⟨99,S99,G99⟩,⟨131,S131,G131⟩,⟨52,S52,G52⟩],[],[],⟨13,[],0⟩,[]⟩,[],[]⟩
def G130(x:(Ca×LI)):Option Int:=((G52 x.1).bind λv0=>bif !v0 then some 1 else(G99 x.1).bind λA=>(G131 (x.2,A)).bind λe=>bif !e then some 2 else some 0)
def t130:tfn E130 f130 S130=G130:=by kernel_rfl
def c130:FT prog 130 S130 G130:=AU AH (Ac a99 c99 (Ac a131 c131 (Ac a52 c52 An))) Am Ao mixed func130 (by kernel_rfl) t130
def a130:Ae prog 130=true:=by kernel_rfl
def S132:Sig:=⟨[(false,yL)],[(false,0,.bool)]⟩
def E132:A8:=⟨⟨TB,[],[],[],⟨20,[],0⟩,[]⟩,[(2,[3],[]),(2,[1000002,3],[])],[]⟩
def G132(x:LI):Option Bool:=((Ar (fun(v0:Int)=>bif decide (v0<x.length)then if 0<=(i64.wrap (v0-1))/\(i64.wrap (v0-1))<(x.length:Int)then if 0<=v0/\v0<x.length then bif decide ((x.getD v0.toNat 0)<=(x.getD (i64.wrap (v0-1)).toNat 0))then BD (some false)else some (LO.next (i64.wrap (v0+1)))else none else none else some (LO.brk 0 v0)) 1).bind (LO.fin λe v0=>if e=0 then some true else none))
def t132:tfn E132 f132 S132=G132:=by kernel_rfl
def c132:FT prog 132 S132 G132:=AU AH An Am Ao mixed func132 (by kernel_rfl) t132
def a132:Ae prog 132=true:=by kernel_rfl
def S55:Sig:=⟨[(false,(.ptr yC)),(false,yL)],[(false,1,(.sl .bool))]⟩
def E55:A8:=⟨⟨TB,[⟨99,S99,G99⟩],[],[],⟨22,[],0⟩,[]⟩,[(3,[5,13],[1,1005001,2000011,2000012]),(3,[1000003,5,11,12,13],[])],[]⟩
def G55(x:(Ca×LI)):Option LB:=((G99 x.1).bind λv0=>if(0<=v0)/\((v0<=v0)/\(((1*v0)<=281474976710656)/\(v0<=9223372036854775807)))then(Ar (fun(e:Int×LB)=>bif decide (e.1<x.2.length)then if 0<=e.1/\e.1<x.2.length then if 0<=(x.2.getD e.1.toNat 0)/\(x.2.getD e.1.toNat 0)<(e.2.length:Int)then some (LO.next (i64.wrap (e.1+1),e.2.set (x.2.getD e.1.toNat 0).toNat true))else none else none else some (LO.brk 0 e)) (0,List.replicate v0.toNat false)).bind (LO.fin λA e=>if A=0 then some e.2 else none)else none)
def t55:tfn E55 f55 S55=G55:=by kernel_rfl
def c55:FT prog 55 S55 G55:=AU AH (Ac a99 c99 An) Am Ao mixed func55 (by kernel_rfl) t55
def a55:Ae prog 55=true:=by kernel_rfl
def S76:SigN:=⟨[(false,(.ptr yC)),(false,yL),(false,yL)],[(false,0,(.ptr (.pair (.ptr yC) (.pair yL (.sl .bool))))),(false,0,yI)]⟩
def E76:A8:=⟨⟨TB,[⟨131,S131,G131⟩,⟨130,S130,G130⟩,⟨132,S132,G132⟩,⟨55,S55,G55⟩],[],[],⟨32,[31,29],0⟩,[]⟩,[],[]⟩
def G76(x:(Ca×LI×LI)):Option (Bool×(Ca×LI×LB)×Int):=((G130 (x.1,x.2.1)).bind λv0=>bif !decide (v0=0)then some (false,((0,[],[],[],[]),[],[]),v0)else(G131 (x.2.2,x.1.1)).bind λB=>bif !B then some (false,((0,[],[],[],[]),[],[]),2)else(G132 x.2.1).bind λA=>bif !A then some (false,((0,[],[],[],[]),[],[]),5)else(G55 (x.1,x.2.1)).bind λe=>some (true,(x.1,x.2.1,e),0))
def t76:tfnN E76 f76 S76=G76:=by kernel_rfl
def c76:FTN prog 76 S76 G76:=AbJ AH (Ac a131 c131 (Ac a130 c130 (Ac a132 c132 (Ac a55 c55 An)))) Am Ao mixed func76 (by kernel_rfl) t76
def a76:Ae prog 76=true:=by kernel_rfl
def S53:Sig:=⟨[(false,(.ptr yC)),(false,yI)],[(false,0,.bool)]⟩
def E53:A8:=⟨⟨TB,[],[],[],⟨20,[],0⟩,[]⟩,[],[]⟩
def G53(x:(Ca×Int)):Option Bool:=(if 0<=x.2/\x.2<x.1.2.1.length then if 0<=(x.1.2.1.getD x.2.toNat 0)/\(x.1.2.1.getD x.2.toNat 0)<(x.1.2.2.2.1.length:Int)then some (decide ((x.1.2.2.2.1.getD (x.1.2.1.getD x.2.toNat 0).toNat 0)=x.2))else none else none)
def t53:tfn E53 f53 S53=G53:=by kernel_rfl
def c53:FT prog 53 S53 G53:=AU AH An Am Ao mixed func53 (by kernel_rfl) t53
def a53:Ae prog 53=true:=by kernel_rfl
def S133:Sig:=⟨[(false,(.ptr (.pair (.ptr yC) (.pair yL (.sl .bool)))))],[(false,0,yI),(false,0,yI),(false,0,.bool)]⟩
def E133:A8:=⟨⟨TB,[⟨81,S81,G81⟩,⟨53,S53,G53⟩],[],[],⟨81,[],0⟩,[]⟩,[(2,[19],[2000018]),(2,[1000002,18,19],[]),(8,[45],[2000043,2000044]),(8,[1000008,43,44,45],[]),(11,[54],[2000007,2000043,2000044,2000045,2000052,2000053]),(11,[1000011,7,43,44,45,52,53,54],[])],[]⟩
def G133(x:(Ca×LI×LB)):Option (Int×Int×Bool):=((Ar (fun(v0:Int)=>bif decide (v0<x.1.2.1.length)then(G53 (x.1,v0)).bind λA=>Option.bind (bif A then if 0<=v0/\v0<x.2.2.length then some (!(x.2.2.getD v0.toNat false))else none else some false) (fun(e:Bool)=>bif e then BD (some (v0,-1,true))else some (LO.next (i64.wrap (v0+1))))else some (LO.brk 0 v0)) 0).bind (LO.fin λO v0=>if O=0 then(Ar (fun(A:Int)=>bif decide (A<x.2.1.length)then if 0<=A/\A<x.2.1.length then(Ar (fun(e:Int)=>bif decide (e<x.2.1.length)then if 0<=e/\e<x.2.1.length then(G81 (x.1,x.2.1.getD A.toNat 0,x.2.1.getD e.toNat 0)).bind λB=>Option.bind (bif decide (0<=B)then if 0<=B/\B<x.2.2.length then some (!(x.2.2.getD B.toNat false))else none else some false) (fun(E:Bool)=>bif E then BD (BD (some (x.2.1.getD A.toNat 0,x.2.1.getD e.toNat 0,true)))else some (LO.next (i64.wrap (e+1))))else none else some (LO.brk 4 e)) 0).bind (LO.fin λF e=>if F=4 then some (LO.next (i64.wrap (A+1)))else none)else none else some (LO.brk 2 A)) 0).bind (LO.fin λJ A=>if J=2 then some (0,0,false)else none)else none))
def t133:tfn E133 f133 S133=G133:=by kernel_rfl
def c133:FT prog 133 S133 G133:=AU AH (Ac a81 c81 (Ac a53 c53 An)) Am Ao mixed func133 (by kernel_rfl) t133
def a133:Ae prog 133=true:=by kernel_rfl
def S78:Sig:=⟨[(false,(.ptr yC)),(false,yI),(false,yI)],[(false,1,yL)]⟩
def E78:A8:=⟨⟨TB,[],[],[],⟨44,[],0⟩,[]⟩,[(3,[7,15],[1,1007001,2000014]),(3,[1000003,7,14,15],[])],[]⟩
def G78(x:(Ca×Int×Int)):Option LI:=((Ar (fun(v0:Int×LI)=>bif decide (v0.1<x.1.2.1.length)then if 0<=v0.1/\v0.1<x.1.2.1.length then Option.bind (bif decide ((x.1.2.1.getD v0.1.toNat 0)=x.2.1)then if 0<=v0.1/\v0.1<x.1.2.2.1.length then some (decide ((x.1.2.2.1.getD v0.1.toNat 0)=x.2.2))else none else some false) (fun(e:Bool)=>bif e then if(v0.2.length+(v0.1::[]).length)<=17592186044416 then some (LO.next (i64.wrap (v0.1+1),v0.2++(v0.1::[])))else none else some (LO.next (i64.wrap (v0.1+1),v0.2)))else none else some (LO.brk 0 v0)) (0,[])).bind (LO.fin λA v0=>if A=0 then some v0.2 else none))
def t78:tfn E78 f78 S78=G78:=by kernel_rfl
def c78:FT prog 78 S78 G78:=AU AH An Am Ao mixed func78 (by kernel_rfl) t78
def a78:Ae prog 78=true:=by kernel_rfl
def S149:Sig:=⟨[(false,(.ptr (.pair (.ptr yC) (.pair yL (.sl .bool))))),(false,yI),(false,yI)],[(false,0,yI),(false,0,yI),(false,0,.bool)]⟩
def E149:A8:=⟨⟨TB,[⟨81,S81,G81⟩,⟨78,S78,G78⟩],[],[],⟨97,[],0⟩,[]⟩,[(1,[10,11,12,13,14],[0,1,2000009,1013000,1014001]),(1,[1000001,9,10,11,12,13,14],[])],[]⟩
def G149(x:((Ca×LI×LB)×Int×Int)):Option (Int×Int×Bool):=(Option.bind (Ar (fun(v0:Nat×Int×Int×Int×LI×LI)=>if v0.1=0 then bif decide (v0.2.1=x.1.1.1)then BD (some (0,0,false))else if 0<=x.2.1/\x.2.1<x.1.1.2.1.length then(G78 (x.1.1,v0.2.1,x.1.1.2.1.getD x.2.1.toNat 0)).bind λA=>if 0<=x.2.2/\x.2.2<x.1.1.2.1.length then(G78 (x.1.1,v0.2.1,x.1.1.2.1.getD x.2.2.toNat 0)).bind λe=>some (LO.next (1,i64.wrap (v0.2.1+1),0,0,A,e))else none else none else if v0.1=1 then bif decide (v0.2.2.1=(v0.2.2.2.2.1.length:Int))then some (LO.next (0,v0.2))else Option.bind (bif decide (v0.2.2.2.1=(v0.2.2.2.2.2.length:Int))then some true else if 0<=v0.2.2.1/\v0.2.2.1<v0.2.2.2.2.1.length then if 0<=(v0.2.2.2.2.1.getD v0.2.2.1.toNat 0)/\(v0.2.2.2.2.1.getD v0.2.2.1.toNat 0)<(x.1.2.2.length:Int)then some (!(x.1.2.2.getD (v0.2.2.2.2.1.getD v0.2.2.1.toNat 0).toNat false))else none else none) (fun(A:Bool)=>bif A then some (LO.next (1,v0.2.1,i64.wrap (v0.2.2.1+1),0,v0.2.2.2.2))else if 0<=v0.2.2.1/\v0.2.2.1<v0.2.2.2.2.1.length then(G81 (x.1.1,v0.2.2.2.2.1.getD v0.2.2.1.toNat 0,x.2.1)).bind λe=>if 0<=v0.2.2.2.1/\v0.2.2.2.1<v0.2.2.2.2.2.length then(G81 (x.1.1,v0.2.2.2.2.2.getD v0.2.2.2.1.toNat 0,x.2.2)).bind λB=>bif decide (e=B)then if 0<=v0.2.2.1/\v0.2.2.1<v0.2.2.2.2.1.length then if 0<=v0.2.2.2.1/\v0.2.2.2.1<v0.2.2.2.2.2.length then BD (some (v0.2.2.2.2.1.getD v0.2.2.1.toNat 0,v0.2.2.2.2.2.getD v0.2.2.2.1.toNat 0,true))else none else none else some (LO.next (1,v0.2.1,v0.2.2.1,i64.wrap (v0.2.2.2.1+1),v0.2.2.2.2))else none else none)else none) (0,0,0,0,[],[])) LO.fin1)
def t149:tfn E149 f149 S149=G149:=by kernel_rfl
def c149:FT prog 149 S149 G149:=AU AH (Ac a81 c81 (Ac a78 c78 An)) Am Ao mixed func149 (by kernel_rfl) t149
def a149:Ae prog 149=true:=by kernel_rfl
def S134:Sig:=⟨[(false,(.ptr (.pair (.ptr yC) (.pair yL (.sl .bool))))),(false,yI),(false,yI)],[(false,0,.bool)]⟩
def E134:A8:=⟨⟨TB,[⟨149,S149,G149⟩],[],[],⟨19,[],0⟩,[]⟩,[],[]⟩
def G134(x:((Ca×LI×LB)×Int×Int)):Option Bool:=((G149 x).bind λv0=>some v0.2.2)
def t134:tfn E134 f134 S134=G134:=by kernel_rfl
def c134:FT prog 134 S134 G134:=AU AH (Ac a149 c149 An) Am Ao mixed func134 (by kernel_rfl) t134
def a134:Ae prog 134=true:=by kernel_rfl
def S166:Sig:=⟨[(false,(.ptr yC)),(false,yI)],[(false,1,yL)]⟩
def E166:A8:=⟨⟨TB,[],[],[],⟨28,[],0⟩,[]⟩,[(3,[5,14],[1,1005001,2000012,2000013]),(3,[1000003,5,12,13,14],[])],[]⟩
def G166(x:(Ca×Int)):Option LI:=((Ar (fun(v0:Int×LI)=>bif decide (v0.1<x.1.2.1.length)then if 0<=v0.1/\v0.1<x.1.2.1.length then bif decide ((x.1.2.1.getD v0.1.toNat 0)=x.2)then if(v0.2.length+(v0.1::[]).length)<=17592186044416 then some (LO.next (i64.wrap (v0.1+1),v0.2++(v0.1::[])))else none else some (LO.next (i64.wrap (v0.1+1),v0.2))else none else some (LO.brk 0 v0)) (0,[])).bind (LO.fin λe v0=>if e=0 then some v0.2 else none))
def t166:tfn E166 f166 S166=G166:=by kernel_rfl
def c166:FT prog 166 S166 G166:=AU AH An Am Ao mixed func166 (by kernel_rfl) t166
def a166:Ae prog 166=true:=by kernel_rfl
def S80:Sig:=⟨[(false,(.ptr yC)),(false,yI)],[(false,1,yL)]⟩
def E80:A8:=⟨⟨TB,[],[],[],⟨28,[],0⟩,[]⟩,[(3,[5,14],[1,1005001,2000012,2000013]),(3,[1000003,5,12,13,14],[])],[]⟩
def G80(x:(Ca×Int)):Option LI:=((Ar (fun(v0:Int×LI)=>bif decide (v0.1<x.1.2.2.1.length)then if 0<=v0.1/\v0.1<x.1.2.2.1.length then bif decide ((x.1.2.2.1.getD v0.1.toNat 0)=x.2)then if(v0.2.length+(v0.1::[]).length)<=17592186044416 then some (LO.next (i64.wrap (v0.1+1),v0.2++(v0.1::[])))else none else some (LO.next (i64.wrap (v0.1+1),v0.2))else none else some (LO.brk 0 v0)) (0,[])).bind (LO.fin λe v0=>if e=0 then some v0.2 else none))
def t80:tfn E80 f80 S80=G80:=by kernel_rfl
def c80:FT prog 80 S80 G80:=AU AH An Am Ao mixed func80 (by kernel_rfl) t80
def a80:Ae prog 80=true:=by kernel_rfl
def S136:Sig:=⟨[(false,(.ptr (.pair (.ptr yC) (.pair yL (.sl .bool))))),(false,yI),(false,yI)],[(false,0,.bool)]⟩
def E136:A8:=⟨⟨TB,[⟨81,S81,G81⟩,⟨166,S166,G166⟩,⟨80,S80,G80⟩],[],[],⟨88,[44,48,80,84],0⟩,[]⟩,[(4,[8,25,27],[2000007,1025000,2000026]),(4,[1000004,7,8,25,26,27],[]),(11,[63,65],[2000007,1063001,2000064]),(11,[1000011,7,63,64,65],[])],[]⟩
def G136(x:((Ca×LI×LB)×Int×Int)):Option Bool:=(if 0<=x.2.1/\x.2.1<x.1.1.2.2.1.length then(G166 (x.1.1,x.1.1.2.2.1.getD x.2.1.toNat 0)).bind λv0=>(Ar (fun(A:Bool×Int)=>bif decide (A.2<v0.length)then if 0<=A.2/\A.2<v0.length then Option.bind (bif A.1 then some true else if 0<=(v0.getD A.2.toNat 0)/\(v0.getD A.2.toNat 0)<(x.1.2.2.length:Int)then bif x.1.2.2.getD (v0.getD A.2.toNat 0).toNat false then(G81 (x.1.1,x.2.1,v0.getD A.2.toNat 0)).bind λB=>(G81 (x.1.1,x.2.2,v0.getD A.2.toNat 0)).bind λe=>some (decide (B=e))else some false else none) (fun(B:Bool)=>some (LO.next (B,i64.wrap (A.2+1))))else none else some (LO.brk 0 A)) (false,0)).bind (LO.fin λO A=>if O=0 then bif !A.1 then some true else if 0<=x.2.1/\x.2.1<x.1.1.2.1.length then(G80 (x.1.1,x.1.1.2.1.getD x.2.1.toNat 0)).bind λB=>(Ar (fun(e:Int)=>bif decide (e<B.length)then if 0<=e/\e<B.length then if 0<=(B.getD e.toNat 0)/\(B.getD e.toNat 0)<(x.1.2.2.length:Int)then Option.bind (bif x.1.2.2.getD (B.getD e.toNat 0).toNat false then(G81 (x.1.1,B.getD e.toNat 0,x.2.1)).bind λE=>(G81 (x.1.1,B.getD e.toNat 0,x.2.2)).bind λF=>some (decide (E=F))else some false) (fun(E:Bool)=>bif E then BD (some true)else some (LO.next (i64.wrap (e+1))))else none else none else some (LO.brk 2 e)) 0).bind (LO.fin λJ e=>if J=2 then some false else none)else none else none)else none)
def t136:tfn E136 f136 S136=G136:=by kernel_rfl
def c136:FT prog 136 S136 G136:=AU AH (Ac a81 c81 (Ac a166 c166 (Ac a80 c80 An))) Am Ao mixed func136 (by kernel_rfl) t136
def a136:Ae prog 136=true:=by kernel_rfl
def S77:Sig:=⟨[(false,(.ptr (.pair (.ptr yC) (.pair yL (.sl .bool)))))],[(false,0,yI),(false,0,yI),(false,0,yI)]⟩
def E77:A8:=⟨⟨TB,[⟨99,S99,G99⟩,⟨135,S135,G135⟩,⟨133,S133,G133⟩,⟨134,S134,G134⟩,⟨136,S136,G136⟩],[],[],⟨107,[66,101],0⟩,[]⟩,[(6,[29],[2000008,2000028]),(6,[1000006,8,28,29],[]),(9,[37],[2000008,2000009,2000028,2000029,2000035,2000036]),(9,[1000009,8,9,28,29,35,36,37],[]),(16,[74],[2000008,2000073]),(16,[1000016,8,73,74],[]),(19,[13],[2000008,2000012,2000073,2000074]),(19,[1000019,8,12,13,73,74],[])],[]⟩
def G77(x:(Ca×LI×LB)):Option (Int×Int×Int):=((G133 x).bind λv0=>bif v0.2.2 then some (1,v0.1,v0.2.1)else(G99 x.1).bind λF=>(Ar (fun(B:Int)=>bif decide (B<F)then(Ar (fun(e:Int)=>bif decide (e<x.2.1.length)then if 0<=e/\e<x.2.1.length then if 0<=B/\B<x.1.2.2.1.length then if 0<=(x.2.1.getD e.toNat 0)/\(x.2.1.getD e.toNat 0)<(x.1.2.2.1.length:Int)then Option.bind (bif decide ((x.1.2.2.1.getD B.toNat 0)=(x.1.2.2.1.getD (x.2.1.getD e.toNat 0).toNat 0))then(G134 (x,B,x.2.1.getD e.toNat 0)).bind λA=>some (!A)else some false) (fun(A:Bool)=>bif A then BD (BD (some (2,B,x.2.1.getD e.toNat 0)))else some (LO.next (i64.wrap (e+1))))else none else none else none else some (LO.brk 2 e)) 0).bind (LO.fin λJ e=>if J=2 then some (LO.next (i64.wrap (B+1)))else none)else some (LO.brk 0 B)) 0).bind (LO.fin λY B=>if Y=0 then(Ar (fun(e:Int)=>bif decide (e<F)then(Ar (fun(A:Int)=>bif decide (A<F)then(G135 (x.1,e)).bind λU=>(G135 (x.1,A)).bind λO=>Option.bind (bif(decide (U.1=O.1))&&((decide (U.2=O.2))&&true)then(G136 (x,e,A)).bind λE=>some (!E)else some false) (fun(E:Bool)=>bif E then BD (BD (some (3,e,A)))else some (LO.next (i64.wrap (A+1))))else some (LO.brk 6 A)) (i64.wrap (e+1))).bind (LO.fin λW A=>if W=6 then some (LO.next (i64.wrap (e+1)))else none)else some (LO.brk 4 e)) 0).bind (LO.fin λJ e=>if J=4 then some (0,-1,-1)else none)else none))
def t77:tfn E77 f77 S77=G77:=by kernel_rfl
def c77:FT prog 77 S77 G77:=AU AH (Ac a99 c99 (Ac a135 c135 (Ac a133 c133 (Ac a134 c134 (Ac a136 c136 An))))) Am Ao mixed func77 (by kernel_rfl) t77
def a77:Ae prog 77=true:=by kernel_rfl
def S40:SigN:=⟨[(false,(.ptr yC)),(false,yL),(false,yL)],[(false,0,(.ptr (.pair (.ptr yC) (.pair yL (.sl .bool))))),(false,0,yI)]⟩
def E40:A8:=⟨⟨TB,[⟨77,S77,G77⟩],[],[⟨76,S76,G76⟩],⟨32,[],0⟩,[]⟩,[],[]⟩
def G40(x:(Ca×LI×LI)):Option (Bool×(Ca×LI×LB)×Int):=((G76 x).bind λv0=>bif v0.1 then bif !decide (v0.2.2=0)then some (false,((0,[],[],[],[]),[],[]),v0.2.2)else(G77 v0.2.1).bind λe=>bif !decide (e.1=0)then some (false,((0,[],[],[],[]),[],[]),5)else some (true,v0.2.1,0)else bif !decide (v0.2.2=0)then some (false,((0,[],[],[],[]),[],[]),v0.2.2)else none)
def t40:tfnN E40 f40 S40=G40:=by kernel_rfl
def c40:FTN prog 40 S40 G40:=AbJ AH (Ac a77 c77 An) Am (UE a76 c76 Ao) mixed func40 (by kernel_rfl) t40
def a40:Ae prog 40=true:=by kernel_rfl
def S41:Sig:=⟨[(false,(.ptr (.pair (.ptr yC) (.pair yL (.sl .bool))))),(false,yI),(false,yI)],[(false,1,(.sl (.pair yI (.pair yI yI))))]⟩
def E41:A8:=⟨⟨TB,[⟨78,S78,G78⟩],[],[],⟨67,[],0⟩,[]⟩,[(3,[7,21],[1,1007001,2000020]),(3,[1000003,7,20,21],[]),(6,[7,30,32],[1,1007001,2000008,2000020,2000021,1030002,2000031]),(6,[1000006,7,8,20,21,30,31,32],[]),(10,[7,30,50,52],[1,1007001,2000008,2000010,2000020,2000021,1030002,2000031,2000032,1050003,2000051]),(10,[1000010,7,8,10,20,21,30,31,32,50,51,52],[])],[]⟩
def G41(x:((Ca×LI×LB)×Int×Int)):Option (List (Int×Int×Int)):=((Ar (fun(v0:(Int×(List (Int×Int×Int))))=>bif decide (v0.1<x.1.1.1)then(G78 (x.1.1,v0.1,x.2.1)).bind λB=>(Ar (fun(e:(Int×(List (Int×Int×Int))))=>bif decide (e.1<B.length)then if 0<=e.1/\e.1<B.length then if 0<=(B.getD e.1.toNat 0)/\(B.getD e.1.toNat 0)<(x.1.2.2.length:Int)then bif !(x.1.2.2.getD (B.getD e.1.toNat 0).toNat false)then some (LO.next (i64.wrap (e.1+1),e.2))else(G78 (x.1.1,v0.1,x.2.2)).bind λE=>(Ar (fun(A:(Int×(List (Int×Int×Int))))=>bif decide (A.1<E.length)then if 0<=A.1/\A.1<E.length then if(A.2.length+((v0.1,B.getD e.1.toNat 0,E.getD A.1.toNat 0)::([]:(List (Int×Int×Int)))).length)<=5864062014805 then some (LO.next (i64.wrap (A.1+1),A.2++((v0.1,B.getD e.1.toNat 0,E.getD A.1.toNat 0)::([]:(List (Int×Int×Int))))))else none else none else some (LO.brk 4 A)) (0,e.2)).bind (LO.fin λF A=>if F=4 then some (LO.next (i64.wrap (e.1+1),A.2))else none)else none else none else some (LO.brk 2 e)) (0,v0.2)).bind (LO.fin λJ e=>if J=2 then some (LO.next (i64.wrap (v0.1+1),e.2))else none)else some (LO.brk 0 v0)) (0,([]:(List (Int×Int×Int))))).bind (LO.fin λO v0=>if O=0 then some v0.2 else none))
def t41:tfn E41 f41 S41=G41:=by kernel_rfl
def c41:FT prog 41 S41 G41:=AU AH (Ac a78 c78 An) Am Ao mixed func41 (by kernel_rfl) t41
def a41:Ae prog 41=true:=by kernel_rfl
def S137:Sig:=⟨[(false,yI)],[(false,1,yL)]⟩
def E137:A8:=⟨⟨TB,[],[],[],⟨18,[],0⟩,[]⟩,[(3,[3,9],[1,1003001,2000008]),(3,[1000003,3,8,9],[])],[]⟩
def G137(x:Int):Option LI:=(if(0<=x)/\((x<=x)/\(((8*x)<=281474976710656)/\(x<=9223372036854775807)))then(Ar (fun(v0:Int×LI)=>bif decide (v0.1<(List.replicate x.toNat (0:Int)).length)then if 0<=v0.1/\v0.1<v0.2.length then some (LO.next (i64.wrap (v0.1+1),v0.2.set v0.1.toNat v0.1))else none else some (LO.brk 0 v0)) (0,List.replicate x.toNat (0:Int))).bind (LO.fin λe v0=>if e=0 then some v0.2 else none)else none)
def t137:tfn E137 f137 S137=G137:=by kernel_rfl
def c137:FT prog 137 S137 G137:=AU AH An Am Ao mixed func137 (by kernel_rfl) t137
def a137:Ae prog 137=true:=by kernel_rfl
def S79:Sig:=⟨[(false,yI)],[(false,1,yL)]⟩
def E79:A8:=⟨⟨TB,[⟨137,S137,G137⟩],[],[],⟨5,[],0⟩,[]⟩,[],[]⟩
def G79(x:Int):Option LI:=((G137 x).bind λv0=>some v0)
def t79:tfn E79 f79 S79=G79:=by kernel_rfl
def c79:FT prog 79 S79 G79:=AU AH (Ac a137 c137 An) Am Ao mixed func79 (by kernel_rfl) t79
def a79:Ae prog 79=true:=by kernel_rfl
def S138:Qu:=⟨0,[(false,yI)],yL,1,false,[(false,0,yI)]⟩
def E138:A8:=⟨⟨TB,[],[],[],⟨26,[],1⟩,[]⟩,[(1,[0,1],[0,1000000]),(1,[1000001,0,1],[])],[]⟩
def G138(z:Int)(x:LI):Option (Int×LI):=((Ar (fun(v0:Int×LI)=>if 0<=v0.1/\v0.1<v0.2.length then bif !decide ((v0.2.getD v0.1.toNat 0)=v0.1)then if 0<=v0.1/\v0.1<v0.2.length then if 0<=(v0.2.getD v0.1.toNat 0)/\(v0.2.getD v0.1.toNat 0)<(v0.2.length:Int)then if 0<=v0.1/\v0.1<v0.2.length then if 0<=v0.1/\v0.1<(v0.2.set v0.1.toNat (v0.2.getD (v0.2.getD v0.1.toNat 0).toNat 0)).length then some (LO.next ((v0.2.set v0.1.toNat (v0.2.getD (v0.2.getD v0.1.toNat 0).toNat 0)).getD v0.1.toNat 0,v0.2.set v0.1.toNat (v0.2.getD (v0.2.getD v0.1.toNat 0).toNat 0)))else none else none else none else none else some (LO.brk 0 v0)else none) (z,x)).bind (LO.fin λe v0=>if e=0 then some v0 else none))
def t138:tfnU E138 f138 S138=G138:=by kernel_rfl
def c138:FTU prog 138 S138 G138:=Y1 AH An Am Ao mixed func138 (by kernel_rfl) t138
def a138:Ae prog 138=true:=by kernel_rfl
def S82:Qu:=⟨0,[(false,yI),(false,yI)],yL,1,false,[(false,0,.bool)]⟩
def E82:A8:=⟨⟨TB,[],[],[],⟨26,[3000000],1⟩,[⟨138,S138,G138⟩]⟩,[],[]⟩
def G82(z:(Int×Int))(x:LI):Option (Bool×LI):=(Option.bind (bif decide (0<(x.length:Int))then G138 z.1 x else none) (fun(v0:Int×LI)=>Option.bind (bif decide (0<(v0.2.length:Int))then G138 z.2 v0.2 else none) (fun(e:Int×LI)=>if 0<=(Adv v0.1 e.1)/\(Adv v0.1 e.1)<(e.2.length:Int)then some (!decide (v0.1=e.1),e.2.set (Adv v0.1 e.1).toNat (minI v0.1 e.1))else none)))
def t82:tfnU E82 f82 S82=G82:=by kernel_rfl
def c82:FTU prog 82 S82 G82:=Y1 AH An Am Ao mixed func82 (by kernel_rfl) t82 (D8 a138 rfl c138 Du)
def a82:Ae prog 82=true:=by kernel_rfl
def S139:Sig:=⟨[(false,yL)],[(false,1,yL)]⟩
def E139:A8:=⟨⟨TB,[],[],[],⟨39,[],0⟩,[]⟩,[(4,[3,4,15],[1,2,1003001,1004002,2000013,2000014]),(4,[1000004,3,4,13,14,15],[])],[]⟩
def G139(x:LI):Option LI:=(if(0<=(x.length:Int))/\(((x.length:Int)<=(x.length:Int))/\(((8*(x.length:Int))<=281474976710656)/\((x.length:Int)<=9223372036854775807)))then(Ar (fun(v0:(Int×(List (Int×Int))×LI))=>bif decide (v0.1<x.length)then if 0<=v0.1/\v0.1<x.length then bif !(Wp (.int .i64) (.int .i64) (x.getD v0.1.toNat 0) v0.2.1)then if 0<=v0.1/\v0.1<v0.2.2.length then some (LO.next (i64.wrap (v0.1+1),Pr (.int .i64) (.int .i64) (x.getD v0.1.toNat 0) (v0.2.1.length:Int) v0.2.1,v0.2.2.set v0.1.toNat (v0.2.1.length:Int)))else none else if 0<=v0.1/\v0.1<v0.2.2.length then some (LO.next (i64.wrap (v0.1+1),v0.2.1,v0.2.2.set v0.1.toNat (Zb (.int .i64) (.int .i64) (x.getD v0.1.toNat 0) v0.2.1)))else none else none else some (LO.brk 0 v0)) (0,[],List.replicate (x.length:Int).toNat (0:Int))).bind (LO.fin λe v0=>if e=0 then some v0.2.2 else none)else none)
def t139:tfn E139 f139 S139=G139:=by kernel_rfl
def c139:FT prog 139 S139 G139:=AU AH An Am Ao mixed func139 (by kernel_rfl) t139
def a139:Ae prog 139=true:=by kernel_rfl
def S10083:Sig:=⟨[(false,yL)],[(false,1,yL)]⟩
def E10083:A8:=⟨⟨TB,[⟨139,S139,G139⟩],[],[],⟨22,[3000000],0⟩,[⟨138,S138,G138⟩]⟩,[(3,[3,10],[1,1003001,2000009]),(3,[1000003,3,9,10],[])],[]⟩
def G10083(x:LI):Option LI:=(if(0<=(x.length:Int))/\(((x.length:Int)<=(x.length:Int))/\(((8*(x.length:Int))<=281474976710656)/\((x.length:Int)<=9223372036854775807)))then(Ar (fun(v0:Int×LI)=>bif decide (v0.1<x.length)then none else some (LO.brk 0 v0)) (0,List.replicate (x.length:Int).toNat (0:Int))).bind (LO.fin λA v0=>if A=0 then(G139 v0.2).bind λe=>some e else none)else none)
def t10083:tfn E10083 f83 S10083=G10083:=by kernel_rfl
def c10083:FT prog 83 S10083 G10083:=AU AH (Ac a139 c139 An) Am Ao mixed func83 (by kernel_rfl) t10083 (D8 a138 rfl c138 Du)
def a10083:Ae prog 83=true:=by kernel_rfl
def S20042:Sig:=⟨[(false,(.ptr (.pair (.ptr yC) (.pair yL (.sl .bool))))),(false,(.sl (.pair yI (.pair yI yI))))],[(false,1,yL)]⟩
def E20042:A8:=⟨⟨TB,[⟨81,S81,G81⟩,⟨80,S80,G80⟩,⟨79,S79,G79⟩,⟨83,S10083,G10083⟩],[],[],⟨92,[32,3000005],0⟩,[⟨82,S82,G82⟩]⟩,[(4,[5,6,21],[1,2,1005001,1006002,2000019,2000020]),(4,[1000004,5,6,19,20,21],[]),(7,[5,6,8,34],[1,2,3,1005001,1006002,2000007,1008003,2000019,2000020,2000021,2000033]),(7,[1000007,5,6,7,8,19,20,21,33,34],[])],[]⟩
def G20042(x:((Ca×LI×LB)×(List (Int×Int×Int)))):Option LI:=((G79 (x.2.length:Int)).bind λv0=>(Ar (fun(A:(Int×LI×(List ((Int×Int×Int)×Int))))=>bif decide (A.1<x.2.length)then if 0<=A.1/\A.1<x.2.length then(G80 (x.1.1,(x.2.getD A.1.toNat (0,0,0)).1)).bind λB=>(Ar (fun(e:(Int×LI×(List ((Int×Int×Int)×Int))×Int×Int×Int))=>bif decide (e.1<B.length)then if 0<=e.1/\e.1<B.length then(G81 (x.1.1,B.getD e.1.toNat 0,e.2.2.2.2.1)).bind λE=>if 0<=E/\E<x.1.2.2.length then bif !(x.1.2.2.getD E.toNat false)then some (LO.next (i64.wrap (e.1+1),e.2))else if 0<=(B.getD e.1.toNat 0)/\(B.getD e.1.toNat 0)<(x.1.1.2.1.length:Int)then(G81 (x.1.1,B.getD e.1.toNat 0,e.2.2.2.2.2)).bind λF=>bif Wp (.pair (.int .i64) (.pair (.int .i64) (.int .i64))) (.int .i64) (x.1.1.2.1.getD (B.getD e.1.toNat 0).toNat 0,E,F) e.2.2.1 then Option.bind (bif decide (0<(e.2.1.length:Int))then G82 (Zb (.pair (.int .i64) (.pair (.int .i64) (.int .i64))) (.int .i64) (x.1.1.2.1.getD (B.getD e.1.toNat 0).toNat 0,E,F) e.2.2.1,A.1) e.2.1 else none) (fun(J:Bool×LI)=>some (LO.next (i64.wrap (e.1+1),J.2,e.2.2)))else some (LO.next (i64.wrap (e.1+1),e.2.1,Pr (.pair (.int .i64) (.pair (.int .i64) (.int .i64))) (.int .i64) (x.1.1.2.1.getD (B.getD e.1.toNat 0).toNat 0,E,F) A.1 e.2.2.1,e.2.2.2))else none else none else none else some (LO.brk 2 e)) (0,A.2.1,A.2.2,(x.2.getD A.1.toNat (0,0,0)).1,(x.2.getD A.1.toNat (0,0,0)).2.1,(x.2.getD A.1.toNat (0,0,0)).2.2)).bind (LO.fin λO e=>if O=2 then some (LO.next (i64.wrap (A.1+1),e.2.1,e.2.2.1))else none)else none else some (LO.brk 0 A)) (0,v0,([]:(List ((Int×Int×Int)×Int))))).bind (LO.fin λU A=>if U=0 then(G10083 A.2.1).bind λB=>some B else none))
def t20042:tfn E20042 f42 S20042=G20042:=by kernel_rfl
def c20042:FT prog 42 S20042 G20042:=AU AH (Ac a81 c81 (Ac a80 c80 (Ac a79 c79 (Ac a10083 c10083 An)))) Am Ao mixed func42 (by kernel_rfl) t20042 (D8 a82 rfl c82 Du)
def S83:Qu:=⟨0,[],yL,1,false,[(false,1,yL)]⟩
def E83:A8:=⟨⟨TB,[⟨139,S139,G139⟩],[],[],⟨22,[3000000],1⟩,[⟨138,S138,G138⟩]⟩,[(3,[0,3,10],[0,2,1000000,1003002,2000009]),(3,[1000003,0,3,9,10],[])],[]⟩
def G83(z:Unit)(x:LI):Option (LI×LI):=(if(0<=(x.length:Int))/\(((x.length:Int)<=(x.length:Int))/\(((8*(x.length:Int))<=281474976710656)/\((x.length:Int)<=9223372036854775807)))then(Ar (fun(v0:Int×LI×LI)=>bif decide (v0.1<x.length)then Option.bind (bif decide (0<(v0.2.1.length:Int))then G138 v0.1 v0.2.1 else none) (fun(e:Int×LI)=>if 0<=v0.1/\v0.1<v0.2.2.length then some (LO.next (i64.wrap (v0.1+1),e.2,v0.2.2.set v0.1.toNat e.1))else none)else some (LO.brk 0 v0)) (0,x,List.replicate (x.length:Int).toNat (0:Int))).bind (LO.fin λA v0=>if A=0 then(G139 v0.2.2).bind λe=>some (e,v0.2.1)else none)else none)
def t83:tfnU E83 f83 S83=G83:=by kernel_rfl
def c83:FTU prog 83 S83 G83:=Y1 AH (Ac a139 c139 An) Am Ao mixed func83 (by kernel_rfl) t83 (D8 a138 rfl c138 Du)
def a83:Ae prog 83=true:=by kernel_rfl
def S30042:Sig:=⟨[(false,(.ptr (.pair (.ptr yC) (.pair yL (.sl .bool))))),(false,(.sl (.pair yI (.pair yI yI))))],[(false,1,yL)]⟩
def E30042:A8:=⟨⟨TB,[⟨81,S81,G81⟩,⟨80,S80,G80⟩,⟨79,S79,G79⟩],[],[],⟨92,[32,3000005],0⟩,[⟨82,S82,G82⟩,⟨83,S83,G83⟩]⟩,[(4,[5,6,21],[1,2,1005001,1006002,2000019,2000020]),(4,[1000004,5,6,19,20,21],[]),(7,[5,6,8,34],[1,2,3,1005001,1006002,2000007,1008003,2000019,2000020,2000021,2000033]),(7,[1000007,5,6,7,8,19,20,21,33,34],[])],[]⟩
def G30042(x:((Ca×LI×LB)×(List (Int×Int×Int)))):Option LI:=((G79 (x.2.length:Int)).bind λv0=>(Ar (fun(A:(Int×LI×(List ((Int×Int×Int)×Int))))=>bif decide (A.1<x.2.length)then if 0<=A.1/\A.1<x.2.length then(G80 (x.1.1,(x.2.getD A.1.toNat (0,0,0)).1)).bind λB=>(Ar (fun(e:(Int×LI×(List ((Int×Int×Int)×Int))×Int×Int×Int))=>bif decide (e.1<B.length)then if 0<=e.1/\e.1<B.length then(G81 (x.1.1,B.getD e.1.toNat 0,e.2.2.2.2.1)).bind λE=>if 0<=E/\E<x.1.2.2.length then bif !(x.1.2.2.getD E.toNat false)then some (LO.next (i64.wrap (e.1+1),e.2))else if 0<=(B.getD e.1.toNat 0)/\(B.getD e.1.toNat 0)<(x.1.1.2.1.length:Int)then(G81 (x.1.1,B.getD e.1.toNat 0,e.2.2.2.2.2)).bind λF=>bif Wp (.pair (.int .i64) (.pair (.int .i64) (.int .i64))) (.int .i64) (x.1.1.2.1.getD (B.getD e.1.toNat 0).toNat 0,E,F) e.2.2.1 then Option.bind (bif decide (0<(e.2.1.length:Int))then G82 (Zb (.pair (.int .i64) (.pair (.int .i64) (.int .i64))) (.int .i64) (x.1.1.2.1.getD (B.getD e.1.toNat 0).toNat 0,E,F) e.2.2.1,A.1) e.2.1 else none) (fun(J:Bool×LI)=>some (LO.next (i64.wrap (e.1+1),J.2,e.2.2)))else some (LO.next (i64.wrap (e.1+1),e.2.1,Pr (.pair (.int .i64) (.pair (.int .i64) (.int .i64))) (.int .i64) (x.1.1.2.1.getD (B.getD e.1.toNat 0).toNat 0,E,F) A.1 e.2.2.1,e.2.2.2))else none else none else none else some (LO.brk 2 e)) (0,A.2.1,A.2.2,(x.2.getD A.1.toNat (0,0,0)).1,(x.2.getD A.1.toNat (0,0,0)).2.1,(x.2.getD A.1.toNat (0,0,0)).2.2)).bind (LO.fin λO e=>if O=2 then some (LO.next (i64.wrap (A.1+1),e.2.1,e.2.2.1))else none)else none else some (LO.brk 0 A)) (0,v0,([]:(List ((Int×Int×Int)×Int))))).bind (LO.fin λU A=>if U=0 then Option.bind (bif decide (0<(A.2.1.length:Int))then G83 () A.2.1 else none) (fun(B:LI×LI)=>some B.1)else none))
def t30042:tfn E30042 f42 S30042=G30042:=by kernel_rfl
def c30042:FT prog 42 S30042 G30042:=AU AH (Ac a81 c81 (Ac a80 c80 (Ac a79 c79 An))) Am Ao mixed func42 (by kernel_rfl) t30042 (D8 a82 rfl c82 (D8 a83 rfl c83 Du))
def a30042:Ae prog 42=true:=by kernel_rfl
def S42:Sig:=S20042
def G42(x:((Ca×LI×LB)×(List (Int×Int×Int)))):Option LI:=if x.2.length=0 then G20042 x else G30042 x
def c42:FT prog 42 S42 G42:=λx y h=>by
 unfold G42 at h;split at h
 .exact c20042 x y h
 .exact c30042 x y h
def a42:Ae prog 42=true:=a30042
def S11:Sig:=⟨[(true,yC),(false,yL),(false,yI),(false,yI)],[(false,1,yL),(false,0,yI)]⟩
def E11:A8:=⟨⟨TB,[⟨41,S41,G41⟩,⟨42,S42,G42⟩],[],[⟨40,S40,G40⟩],⟨34,[4,17],0⟩,[]⟩,[],[]⟩
def G11(x:(Ca×Bx)):Option (LI×Int):=((G40 (x.1,x.2.1,(x.2.2.1::(x.2.2.2::[])))).bind λv0=>bif v0.1 then bif !decide (v0.2.2=0)then some ([],v0.2.2)else(G41 (v0.2.1,x.2.2)).bind λe=>bif decide (200<(e.length:Int))then some ([],3)else(G42 (v0.2.1,e)).bind λA=>some (A,0)else bif !decide (v0.2.2=0)then some ([],v0.2.2)else none)
def t11:tfn E11 f11 S11=G11:=by kernel_rfl
def c11:FT prog 11 S11 G11:=AU AH (Ac a41 c41 (Ac a42 c42 An)) Am (UE a40 c40 Ao) mixed func11 (by kernel_rfl) t11
def a11:Ae prog 11=true:=by kernel_rfl
def S12:Sig:=⟨[(false,yL),(false,yL)],[(false,0,.bool)]⟩
def E12:A8:=⟨⟨TB,[],[],[],⟨26,[],0⟩,[]⟩,[(4,[5],[]),(4,[1000004,5],[])],[]⟩
def G12(x:(LI×LI)):Option Bool:=(bif !decide ((x.1.length:Int)=(x.2.length:Int))then some false else(Ar (fun(v0:Int)=>bif decide (v0<x.1.length)then if 0<=v0/\v0<x.1.length then if 0<=v0/\v0<x.2.length then bif !decide ((x.1.getD v0.toNat 0)=(x.2.getD v0.toNat 0))then BD (some false)else some (LO.next (i64.wrap (v0+1)))else none else none else some (LO.brk 0 v0)) 0).bind (LO.fin λe v0=>if e=0 then some true else none))
def t12:tfn E12 f12 S12=G12:=by kernel_rfl
def c12:FT prog 12 S12 G12:=AU AH An Am Ao mixed func12 (by kernel_rfl) t12
def a12:Ae prog 12=true:=by kernel_rfl
def S22:Sig:=⟨[(false,yM),(false,yM)],[(false,0,.bool)]⟩
def E22:A8:=⟨⟨TB,[⟨12,S12,G12⟩],[],[],⟨27,[],0⟩,[]⟩,[(4,[5],[]),(4,[1000004,5],[])],[]⟩
def G22(x:(LL×LL)):Option Bool:=(bif !decide ((x.1.length:Int)=(x.2.length:Int))then some false else(Ar (fun(v0:Int)=>bif decide (v0<x.1.length)then if 0<=v0/\v0<x.1.length then if 0<=v0/\v0<x.2.length then(G12 (x.1.getD v0.toNat [],x.2.getD v0.toNat [])).bind λe=>bif !e then BD (some false)else some (LO.next (i64.wrap (v0+1)))else none else none else some (LO.brk 0 v0)) 0).bind (LO.fin λA v0=>if A=0 then some true else none))
def t22:tfn E22 f22 S22=G22:=by kernel_rfl
def c22:FT prog 22 S22 G22:=AU AH (Ac a12 c12 An) Am Ao mixed func22 (by kernel_rfl) t22
def a22:Ae prog 22=true:=by kernel_rfl
def S13:Sig:=⟨[(true,yC),(true,yC)],[(false,0,.bool)]⟩
def E13:A8:=⟨⟨TB,[⟨12,S12,G12⟩,⟨22,S22,G22⟩],[],[],⟨34,[2,3],0⟩,[]⟩,[],[]⟩
def G13(x:(Ca×Ca)):Option Bool:=(bif !decide (x.1.1=x.2.1)then some false else(G12 (x.1.2.1,x.2.2.1)).bind λv0=>bif !v0 then some false else(G12 (x.1.2.2.1,x.2.2.2.1)).bind λB=>bif !B then some false else(G12 (x.1.2.2.2.1,x.2.2.2.2.1)).bind λA=>bif !A then some false else(G22 (x.1.2.2.2.2,x.2.2.2.2.2)).bind λe=>bif !e then some false else some true)
def t13:tfn E13 f13 S13=G13:=by kernel_rfl
def c13:FT prog 13 S13 G13:=AU AH (Ac a12 c12 (Ac a22 c22 An)) Am Ao mixed func13 (by kernel_rfl) t13
def a13:Ae prog 13=true:=by kernel_rfl
def S15:Adi:=⟨[(true,false,yL),(false,false,yI)],yI⟩
def E15:A8:=⟨⟨TB,[],[],[],⟨19,[],1⟩,[]⟩,[(2,[0,1,5],[0,1000000]),(2,[1000002,0,1,5],[])],[]⟩
def G15(x:(LI×Int)):Option (Int×LI):=((Ar (fun(v0:Int×Int×LI)=>bif decide (v0.2.1<v0.2.2.length)then if 0<=v0.2.1/\v0.2.1<v0.2.2.length then some (LO.next (i64.wrap (v0.1+1),i64.wrap (v0.2.1+1),v0.2.2.set v0.2.1.toNat v0.1))else none else some (LO.brk 0 v0)) (x.2,0,x.1)).bind (LO.fin λe v0=>if e=0 then some (v0.1,v0.2.2)else none))
def t15:tfnW E15 f15 S15=G15:=by kernel_rfl
def c15:FTW prog 15 S15 G15:=Y0 AH An Am Ao mixed func15 (by kernel_rfl) t15
def a15:Ae prog 15=true:=by kernel_rfl
def S23:Adi:=⟨[(true,false,yM),(false,false,yI)],yI⟩
def E23:A8:=⟨⟨TB,[],[⟨15,S15,G15⟩],[],⟨19,[],1⟩,[]⟩,[(2,[0,1,5],[0,1000000]),(2,[1000002,0,1,5],[])],[]⟩
def G23(x:(LL×Int)):Option (Int×LL):=((Ar (fun(v0:Int×Int×LL)=>bif decide (v0.2.1<v0.2.2.length)then if 0<=v0.2.1/\v0.2.1<v0.2.2.length then(G15 (v0.2.2.getD v0.2.1.toNat [],v0.1)).bind λe=>some (LO.next (e.1,i64.wrap (v0.2.1+1),v0.2.2.set v0.2.1.toNat e.2))else none else some (LO.brk 0 v0)) (x.2,0,x.1)).bind (LO.fin λA v0=>if A=0 then some (v0.1,v0.2.2)else none))
def t23:tfnW E23 f23 S23=G23:=by kernel_rfl
def c23:FTW prog 23 S23 G23:=Y0 AH An (H7 a15 c15 Am) Ao mixed func23 (by kernel_rfl) t23
def a23:Ae prog 23=true:=by kernel_rfl
def S14:Adi:=⟨[(true,true,yC),(false,false,yI)],yI⟩
def E14:A8:=⟨⟨TB,[],[⟨15,S15,G15⟩,⟨23,S23,G23⟩],[],⟨22,[2],4⟩,[]⟩,[],[]⟩
def G14(x:(Ca×Int)):Option Ca:=((G15 (x.1.2.1,x.2)).bind λv0=>(G15 (x.1.2.2.1,v0.1)).bind λB=>(G15 (x.1.2.2.2.1,B.1)).bind λA=>(G23 (x.1.2.2.2.2,A.1)).bind λe=>some (e.1,v0.2,B.2,A.2,e.2))
def t14:tfnW E14 f14 S14=G14:=by kernel_rfl
def c14:FTW prog 14 S14 G14:=Y0 AH An (H7 a15 c15 (H7 a23 c23 Am)) Ao mixed func14 (by kernel_rfl) t14
def a14:Ae prog 14=true:=by kernel_rfl
def S16:Sig:=⟨[(false,yL),(false,yI)],[(false,0,yI)]⟩
def E16:A8:=⟨⟨TB,[],[],[],⟨21,[],0⟩,[]⟩,[(2,[1,5],[]),(2,[1000002,1,5],[])],[]⟩
def G16(x:(LI×Int)):Option Int:=((Ar (fun(v0:Int×Int)=>bif decide (v0.2<x.1.length)then if 0<=v0.2/\v0.2<x.1.length then bif !decide ((x.1.getD v0.2.toNat 0)=v0.1)then BD (some (-1))else some (LO.next (i64.wrap (v0.1+1),i64.wrap (v0.2+1)))else none else some (LO.brk 0 v0)) (x.2,0)).bind (LO.fin λe v0=>if e=0 then some v0.1 else none))
def t16:tfn E16 f16 S16=G16:=by kernel_rfl
def c16:FT prog 16 S16 G16:=AU AH An Am Ao mixed func16 (by kernel_rfl) t16
def a16:Ae prog 16=true:=by kernel_rfl
def S3:Sig:=⟨[(true,yC),(false,yL),(false,yI),(false,yI)],[(false,0,.bool)]⟩
def E3:A8:=⟨⟨TB,[⟨7,S7,G7⟩,⟨10,S10,G10⟩,⟨9,S9,G9⟩,⟨8,S8,G8⟩,⟨11,S11,G11⟩,⟨12,S12,G12⟩,⟨13,S13,G13⟩,⟨16,S16,G16⟩],[⟨15,S15,G15⟩,⟨14,S14,G14⟩],[],⟨127,[4,81],0⟩,[]⟩,[],[]⟩
def G3(x:(Ca×Bx)):Option Bool:=(bif decide (1048576<(x.2.1.length:Int))then some true else(G7 (x.1,1048576)).bind λv0=>bif decide (v0<0)then some true else(G9 x.1).bind λv1=>(G10 x.2.1).bind λv2=>(G8 (v1,v2,x.2.2)).bind λB=>(G9 x.1).bind λW=>(G10 x.2.1).bind λU=>(G11 (W,U,x.2.2)).bind λE=>(G12 (E.1,B.1)).bind λv7=>Option.bind (bif !v7 then some true else some (!decide (E.2=B.2))) (fun(v8:Bool)=>bif v8 then some false else(G9 x.1).bind λv9=>(G13 (W,v9)).bind λv10=>bif !v10 then some false else(G10 x.2.1).bind λv11=>(G12 (U,v11)).bind λv12=>bif !v12 then some false else(G14 (W,1)).bind λv13=>(G15 (U,v13.1)).bind λv14=>Option.bind (bif decide (v14.1<0)then some true else(G12 (E.1,B.1)).bind λA=>some (!A)) (fun(A:Bool)=>Option.bind (bif A then some true else some (!decide (E.2=B.2))) (fun(v16:Bool)=>bif v16 then some false else(G15 (E.1,1)).bind λe=>(G16 (e.2,1)).bind λO=>bif decide (O<0)then some false else bif !decide (O=e.1)then some false else(G9 x.1).bind λv19=>(G10 x.2.1).bind λv20=>(G11 (v19,v20,x.2.2)).bind λJ=>(G12 (J.1,B.1)).bind λZ=>Option.bind (bif !Z then some true else some (!decide (J.2=B.2))) (fun(Y:Bool)=>bif Y then some false else(G16 (e.2,1)).bind λF=>bif decide (F<0)then some false else bif !decide (F=e.1)then some false else some true)))))
def t3:tfn E3 f3 S3=G3:=by kernel_rfl
def c3:FT prog 3 S3 G3:=AU AH (Ac a7 c7 (Ac a10 c10 (Ac a9 c9 (Ac a8 c8 (Ac a11 c11 (Ac a12 c12 (Ac a13 c13 (Ac a16 c16 An)))))))) (H7 a15 c15 (H7 a14 c14 Am)) Ao mixed func3 (by kernel_rfl) t3
end
end Go.Ve.D

