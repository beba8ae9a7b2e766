/- What the functions compute (printed by a program), and that they do. -/
import Derived.Test.YtcpgmjbppfdjbaaDoorNrd
namespace Go.Ve.D
open Go Go.Ve Go.Proofs Go.Proofs.Tryd
set_option maxRecDepth 100000
abbrev yB:Ty:=(.pair (.sl (.int .u8)) (.pair (.int .i64) (.int .u64)))
abbrev yL:Ty:=(.sl (.int .i64))
abbrev yI:Ty:=(.int .i64)
abbrev LI:=List Int
abbrev St:=Int×List Int×List Int×List ByteArray×ByteArray×Int×ByteArray
abbrev s0:St:=(0,[],[],[],ByteArray.mk #[],0,ByteArray.mk #[])
open IntKind
noncomputable section
def S16:Sig:=⟨[(false,yL),(false,yI)],[(false,0,yI)]⟩
def E16:Cb:=⟨⟨TB,[],[],[],⟨12,[],0⟩,[]⟩,[],[]⟩
def G16(x:(LI×Int)):Option Int:=(bif decide ((i64.wrap (x.2-(x.1.length:Int)))<0)then some (-1)else some (i64.wrap (x.2-(x.1.length:Int))))
theorem t16:tfn E16 f16 S16=G16:=by kernel_rfl
theorem c16:FT prog 16 S16 G16:=Bz Bw AM AL AN mixed func16 (by kernel_rfl) t16
theorem a16:Aj prog 16=true:=by kernel_rfl
def S17:Sig:=⟨[(false,(.sl .str)),(false,yI)],[(false,0,yI)]⟩
def E17:Cb:=⟨⟨TB,[],[],[],⟨28,[],0⟩,[]⟩,[(5,[1,5],[]),(5,[1000005,1,5],[])],[]⟩
def G17(x:((List ByteArray)×Int)):Option Int:=(bif decide ((i64.wrap (x.2-(x.1.length:Int)))<0)then some (-1)else(A3 (fun(v0:Int×Int)=>bif decide (v0.2<x.1.length)then if 0<=v0.2/\v0.2<x.1.length then bif decide ((i64.wrap (v0.1-((x.1.getD v0.2.toNat (ByteArray.mk #[])).size:Int)))<0)then HO (some (-1))else some (LO.next (i64.wrap (v0.1-((x.1.getD v0.2.toNat (ByteArray.mk #[])).size:Int)),i64.wrap (v0.2+1)))else none else some (LO.brk 0 v0)) (i64.wrap (x.2-(x.1.length:Int)),0)).bind (LO.fin λi0 v0=>if i0=0 then some v0.1 else none))
theorem t17:tfn E17 f17 S17=G17:=by kernel_rfl
theorem c17:FT prog 17 S17 G17:=Bz Bw AM AL AN mixed func17 (by kernel_rfl) t17
theorem a17:Aj prog 17=true:=by kernel_rfl
def S9:Sig:=⟨[(true,(.pair yI (.pair yL (.pair yL (.pair (.sl .str) (.pair .str (.pair yI .str))))))),(false,yI)],[(false,0,yI)]⟩
def E9:Cb:=⟨⟨TB,[⟨16,S16,G16⟩,⟨17,S17,G17⟩],[],[],⟨38,[2],0⟩,[]⟩,[],[]⟩
def G9(x:(St×Int)):Option Int:=((G16 (x.1.2.1,x.2)).bind λv0=>bif decide (v0<0)then some (-1)else(G16 (x.1.2.2.1,v0)).bind λv1=>bif decide (v1<0)then some (-1)else(G17 (x.1.2.2.2.1,v1)).bind λv2=>bif decide (v2<0)then some (-1)else bif decide ((i64.wrap (v2-(x.1.2.2.2.2.1.size:Int)))<0)then some (-1)else bif decide ((i64.wrap ((i64.wrap (v2-(x.1.2.2.2.2.1.size:Int)))-(x.1.2.2.2.2.2.2.size:Int)))<0)then some (-1)else some (i64.wrap ((i64.wrap (v2-(x.1.2.2.2.2.1.size:Int)))-(x.1.2.2.2.2.2.2.size:Int))))
theorem t9:tfn E9 f9 S9=G9:=by kernel_rfl
theorem c9:FT prog 9 S9 G9:=Bz Bw (Ar a16 c16 (Ar a17 c17 AM)) AL AN mixed func9 (by kernel_rfl) t9
theorem a9:Aj prog 9=true:=by kernel_rfl
def S4:Sig:=⟨[(false,(.sl (.pair yI (.pair yL (.pair yL (.pair (.sl .str) (.pair .str (.pair yI .str)))))))),(false,yI)],[(false,0,yI)]⟩
def E4:Cb:=⟨⟨TB,[⟨9,S9,G9⟩],[],[],⟨27,[],0⟩,[]⟩,[(5,[1,5],[]),(5,[1000005,1,5],[])],[]⟩
def G4(x:(List St×Int)):Option Int:=(bif decide ((i64.wrap (x.2-(x.1.length:Int)))<0)then some (-1)else(A3 (fun(v0:Int×Int)=>bif decide (v0.2<x.1.length)then if 0<=v0.2/\v0.2<x.1.length then(G9 ((x.1.getD v0.2.toNat s0),v0.1)).bind λv1=>bif decide (v1<0)then HO (some (-1))else some (LO.next (v1,i64.wrap (v0.2+1)))else none else some (LO.brk 0 v0)) (i64.wrap (x.2-(x.1.length:Int)),0)).bind (LO.fin λi0 v0=>if i0=0 then some v0.1 else none))
theorem t4:tfn E4 f4 S4=G4:=by kernel_rfl
theorem c4:FT prog 4 S4 G4:=Bz Bw (Ar a9 c9 AM) AL AN mixed func4 (by kernel_rfl) t4
theorem a4:Aj prog 4=true:=by kernel_rfl
def S23:Sig:=⟨[(false,yL)],[(false,1,yL)]⟩
def E23:Cb:=⟨⟨TB,[],[],[],⟨22,[],0⟩,[]⟩,[(3,[3,4],[1,1003001]),(3,[1000003,3,4],[])],[]⟩
def G23(x:LI):Option LI:=(if(0<=(x.length:Int))/\(((x.length:Int)<=(x.length:Int))/\(((8*(x.length:Int))<=281474976710656)/\((x.length:Int)<=9223372036854775807)))then(A3 (fun(v0:Int×LI)=>bif decide (v0.1<x.length)then if 0<=v0.1/\v0.1<x.length then if 0<=v0.1/\v0.1<v0.2.length then some (LO.next (i64.wrap (v0.1+1),v0.2.set v0.1.toNat (x.getD v0.1.toNat 0)))else none else none else some (LO.brk 0 v0)) (0,List.replicate (x.length:Int).toNat (0:Int))).bind (LO.fin λi0 v0=>if i0=0 then some v0.2 else none)else none)
theorem t23:tfn E23 f23 S23=G23:=by kernel_rfl
theorem c23:FT prog 23 S23 G23:=Bz Bw AM AL AN mixed func23 (by kernel_rfl) t23
theorem a23:Aj prog 23=true:=by kernel_rfl
def S24:Sig:=⟨[(false,(.sl .str))],[(false,1,(.sl .str))]⟩
def E24:Cb:=⟨⟨TB,[],[],[],⟨22,[],0⟩,[]⟩,[(3,[3,4],[1,1003001]),(3,[1000003,3,4],[])],[]⟩
def G24(x:(List ByteArray)):Option (List ByteArray):=(if(0<=(x.length:Int))/\(((x.length:Int)<=(x.length:Int))/\(((16*(x.length:Int))<=281474976710656)/\((x.length:Int)<=9223372036854775807)))then(A3 (fun(v0:(Int×(List ByteArray)))=>bif decide (v0.1<x.length)then if 0<=v0.1/\v0.1<x.length then if 0<=v0.1/\v0.1<v0.2.length then some (LO.next (i64.wrap (v0.1+1),v0.2.set v0.1.toNat (x.getD v0.1.toNat (ByteArray.mk #[]))))else none else none else some (LO.brk 0 v0)) (0,List.replicate (x.length:Int).toNat (ByteArray.mk #[]))).bind (LO.fin λi0 v0=>if i0=0 then some v0.2 else none)else none)
theorem t24:tfn E24 f24 S24=G24:=by kernel_rfl
theorem c24:FT prog 24 S24 G24:=Bz Bw AM AL AN mixed func24 (by kernel_rfl) t24
theorem a24:Aj prog 24=true:=by kernel_rfl
def S12:Sig:=⟨[(true,(.pair yI (.pair yL (.pair yL (.pair (.sl .str) (.pair .str (.pair yI .str)))))))],[(true,1,(.pair yI (.pair yL (.pair yL (.pair (.sl .str) (.pair .str (.pair yI .str)))))))]⟩
def E12:Cb:=⟨⟨TB,[⟨23,S23,G23⟩,⟨24,S24,G24⟩],[],[],⟨29,[1],0⟩,[]⟩,[],[]⟩
def G12(x:St):Option St:=((G23 x.2.1).bind λv0=>(G23 x.2.2.1).bind λv1=>(G24 x.2.2.2.1).bind λv2=>some (x.1,v0,v1,v2,x.2.2.2.2))
theorem t12:tfn E12 f12 S12=G12:=by kernel_rfl
theorem c12:FT prog 12 S12 G12:=Bz Bw (Ar a23 c23 (Ar a24 c24 AM)) AL AN mixed func12 (by kernel_rfl) t12
theorem a12:Aj prog 12=true:=by kernel_rfl
def S6:Sig:=⟨[(false,(.sl (.pair yI (.pair yL (.pair yL (.pair (.sl .str) (.pair .str (.pair yI .str))))))))],[(false,2,(.sl (.pair yI (.pair yL (.pair yL (.pair (.sl .str) (.pair .str (.pair yI .str))))))))]⟩
def E6:Cb:=⟨⟨TB,[⟨12,S12,G12⟩],[],[],⟨23,[],0⟩,[]⟩,[(3,[3,4],[1,1003001]),(3,[1000003,3,4],[])],[]⟩
def G6(x:List St):Option (List St):=(if(0<=(x.length:Int))/\(((x.length:Int)<=(x.length:Int))/\(((120*(x.length:Int))<=281474976710656)/\((x.length:Int)<=9223372036854775807)))then(A3 (fun(v0:(Int×List St))=>bif decide (v0.1<x.length)then if 0<=v0.1/\v0.1<x.length then(G12 (x.getD v0.1.toNat s0)).bind λv1=>if 0<=v0.1/\v0.1<v0.2.length then Option.bind (some (v0.2.set v0.1.toNat (v1.1,(v0.2.getD v0.1.toNat s0).2))) (fun(v2:List St)=>Option.bind (some (v2.set v0.1.toNat ((v2.getD v0.1.toNat s0).1,v1.2.1,(v2.getD v0.1.toNat s0).2.2))) (fun(v3:List St)=>Option.bind (some (v3.set v0.1.toNat ((v3.getD v0.1.toNat s0).1,(v3.getD v0.1.toNat s0).2.1,v1.2.2.1,(v3.getD v0.1.toNat s0).2.2.2))) (fun(v4:List St)=>Option.bind (some (v4.set v0.1.toNat ((v4.getD v0.1.toNat s0).1,(v4.getD v0.1.toNat s0).2.1,(v4.getD v0.1.toNat s0).2.2.1,v1.2.2.2.1,(v4.getD v0.1.toNat s0).2.2.2.2))) (fun(v5:List St)=>Option.bind (some (v5.set v0.1.toNat ((v5.getD v0.1.toNat s0).1,(v5.getD v0.1.toNat s0).2.1,(v5.getD v0.1.toNat s0).2.2.1,(v5.getD v0.1.toNat s0).2.2.2.1,v1.2.2.2.2.1,(v5.getD v0.1.toNat s0).2.2.2.2.2))) (fun(v6:List St)=>Option.bind (some (v6.set v0.1.toNat ((v6.getD v0.1.toNat s0).1,(v6.getD v0.1.toNat s0).2.1,(v6.getD v0.1.toNat s0).2.2.1,(v6.getD v0.1.toNat s0).2.2.2.1,(v6.getD v0.1.toNat s0).2.2.2.2.1,v1.2.2.2.2.2.1,(v6.getD v0.1.toNat s0).2.2.2.2.2.2))) (fun(v7:List St)=>Option.bind (some (v7.set v0.1.toNat ((v7.getD v0.1.toNat s0).1,(v7.getD v0.1.toNat s0).2.1,(v7.getD v0.1.toNat s0).2.2.1,(v7.getD v0.1.toNat s0).2.2.2.1,(v7.getD v0.1.toNat s0).2.2.2.2.1,(v7.getD v0.1.toNat s0).2.2.2.2.2.1,v1.2.2.2.2.2.2))) (fun(v8:List St)=>some (LO.next (i64.wrap (v0.1+1),v8)))))))))else none else none else some (LO.brk 0 v0)) (0,List.replicate (x.length:Int).toNat s0)).bind (LO.fin λi0 v0=>if i0=0 then some v0.2 else none)else none)
theorem t6:tfn E6 f6 S6=G6:=by kernel_rfl
theorem c6:FT prog 6 S6 G6:=Bz Bw (Ar a12 c12 AM) AL AN mixed func6 (by kernel_rfl) t6
theorem a6:Aj prog 6=true:=by kernel_rfl
def S18:Sig:=⟨[(false,yI),(false,yI),(false,yI)],[(false,0,.bool)]⟩
def E18:Cb:=⟨⟨TB,[],[],[],⟨15,[],0⟩,[]⟩,[],[]⟩
def G18(x:(Int×Int×Int)):Option Bool:=(Option.bind (bif decide (x.2.1<=x.1)then some (decide (x.1<=x.2.2))else some false) (fun(v0:Bool)=>some v0))
theorem t18:tfn E18 f18 S18=G18:=by kernel_rfl
theorem c18:FT prog 18 S18 G18:=Bz Bw AM AL AN mixed func18 (by kernel_rfl) t18
theorem a18:Aj prog 18=true:=by kernel_rfl
def S19:Sig:=⟨[(false,yI),(false,yL)],[(false,0,.bool)]⟩
def E19:Cb:=⟨⟨TB,[],[],[],⟨25,[],0⟩,[]⟩,[(2,[5],[]),(2,[1000002,5],[])],[]⟩
def G19(x:(Int×LI)):Option Bool:=((A3 (fun(v0:Int)=>bif decide (v0<x.2.length)then if 0<=v0/\v0<x.2.length then Option.bind (bif decide ((x.2.getD v0.toNat 0)<0)then some true else if 0<=v0/\v0<x.2.length then some (decide (x.1<=(x.2.getD v0.toNat 0)))else none) (fun(v1:Bool)=>bif v1 then HO (some false)else some (LO.next (i64.wrap (v0+1))))else none else some (LO.brk 0 v0)) 0).bind (LO.fin λi0 v0=>if i0=0 then some true else none))
theorem t19:tfn E19 f19 S19=G19:=by kernel_rfl
theorem c19:FT prog 19 S19 G19:=Bz Bw AM AL AN mixed func19 (by kernel_rfl) t19
theorem a19:Aj prog 19=true:=by kernel_rfl
def S20:Sig:=⟨[(false,.str)],[(false,0,.bool)]⟩
def E20:Cb:=⟨⟨TB,[],[],[],⟨26,[],0⟩,[]⟩,[(2,[3],[]),(2,[1000002,3],[])],[]⟩
def G20(x:ByteArray):Option Bool:=((A3 (fun(v0:Int)=>bif decide (v0<(x.size:Int))then if 0<=v0/\v0<(x.size:Int)then Option.bind (bif decide ((Xb x v0.toNat)=59)then some true else if 0<=v0/\v0<(x.size:Int)then some (decide ((Xb x v0.toNat)=47))else none) (fun(v1:Bool)=>Option.bind (bif v1 then some true else if 0<=v0/\v0<(x.size:Int)then some (decide ((Xb x v0.toNat)=10))else none) (fun(v2:Bool)=>bif v2 then HO (some false)else some (LO.next (i64.wrap (v0+1)))))else none else some (LO.brk 0 v0)) 0).bind (LO.fin λi0 v0=>if i0=0 then some true else none))
theorem t20:tfn E20 f20 S20=G20:=by kernel_rfl
theorem c20:FT prog 20 S20 G20:=Bz Bw AM AL AN mixed func20 (by kernel_rfl) t20
theorem a20:Aj prog 20=true:=by kernel_rfl
def S10:Sig:=⟨[(true,(.pair yI (.pair yL (.pair yL (.pair (.sl .str) (.pair .str (.pair yI .str)))))))],[(false,0,.bool)]⟩
def E10:Cb:=⟨⟨TB,[⟨18,S18,G18⟩,⟨19,S19,G19⟩,⟨20,S20,G20⟩],[],[],⟨66,[1,11,17,23,35,41,63],0⟩,[]⟩,[(4,[3],[]),(4,[1000004,3],[])],[]⟩
def G10(x:St):Option Bool:=((G18 (x.1,0,999999999)).bind λv0=>Option.bind (bif !v0 then some true else(G18 (x.2.2.2.2.2.1,0,999999999)).bind λv1=>some (!v1)) (fun(v1:Bool)=>Option.bind (bif v1 then some true else(G19 (1000000000,x.2.1)).bind λv2=>some (!v2)) (fun(v2:Bool)=>Option.bind (bif v2 then some true else(G19 (1000000000,x.2.2.1)).bind λv3=>some (!v3)) (fun(v3:Bool)=>Option.bind (bif v3 then some true else some (decide (8<(x.2.2.2.1.length:Int)))) (fun(v4:Bool)=>Option.bind (bif v4 then some true else(G20 x.2.2.2.2.1).bind λv5=>some (!v5)) (fun(v5:Bool)=>Option.bind (bif v5 then some true else(G20 x.2.2.2.2.2.2).bind λv6=>some (!v6)) (fun(v6:Bool)=>bif v6 then some false else(A3 (fun(v7:Int)=>bif decide (v7<x.2.2.2.1.length)then if 0<=v7/\v7<x.2.2.2.1.length then Option.bind (bif eqS (x.2.2.2.1.getD v7.toNat (ByteArray.mk #[])) (ByteArray.mk #[])then some true else if 0<=v7/\v7<x.2.2.2.1.length then(G20 (x.2.2.2.1.getD v7.toNat (ByteArray.mk #[]))).bind λv8=>some (!v8)else none) (fun(v8:Bool)=>bif v8 then HO (some false)else some (LO.next (i64.wrap (v7+1))))else none else some (LO.brk 0 v7)) 0).bind (LO.fin λi7 v7=>if i7=0 then some true else none))))))))
theorem t10:tfn E10 f10 S10=G10:=by kernel_rfl
theorem c10:FT prog 10 S10 G10:=Bz Bw (Ar a18 c18 (Ar a19 c19 (Ar a20 c20 AM))) AL AN mixed func10 (by kernel_rfl) t10
theorem a10:Aj prog 10=true:=by kernel_rfl
def S21:Sig:=⟨[(false,yI)],[(false,0,.str)]⟩
def E21(r:(PT S21.ps).T->Option (RT S21.rs).T):Cb:=⟨⟨TB,[⟨21,S21,r⟩],[],[],⟨20,[],0⟩,[]⟩,[],[]⟩
def B21(r:Int->Option ByteArray)(x:Int):Option ByteArray:=(bif decide (x<10)then some (Go.strOfNums ((IntKind.wrap .u8 (i64.wrap (48+x))):: []))else if 10≠0 then(r (i64.wrap (Int.tdiv x 10))).bind λv0=>if 10≠0 then if(v0.size+(Go.strOfNums ((IntKind.wrap .u8 (i64.wrap (48+(Int.tmod x 10)))):: [])).size)<=9223372036854775807 then some (v0++(Go.strOfNums ((IntKind.wrap .u8 (i64.wrap (48+(Int.tmod x 10)))):: [])))else none else none else none)
noncomputable def R21:Nat->Int->Option ByteArray
 |0,_=>none
 |n+1,x=>B21 (R21 n) x
def G21(x:Int):Option ByteArray:=R21 4096 x
theorem t21:(λr=>tfn (E21 r) f21 S21)=B21:=by kernel_rfl
theorem a21:Aj prog 21=true:=by kernel_rfl
theorem b21{r:(PT S21.ps).T->Option (RT S21.rs).T}(h:FT prog 21 S21 r):FT prog 21 S21 (B21 r):=Bz (E:=E21 r) Bw (Ar a21 h AM) AL AN mixed func21 (by kernel_rfl) (congrFun t21 r)
theorem r21: ∀n,FT prog 21 S21 (R21 n)
 |0=>λ_ _ h=>by cases h
 |n+1=>b21 (r21 n)
theorem c21:FT prog 21 S21 G21:=r21 4096
def S22:Sig:=⟨[(false,yL)],[(false,0,.str)]⟩
def E22:Cb:=⟨⟨TB,[⟨21,S21,G21⟩],[],[],⟨23,[],0⟩,[]⟩,[(3,[3,4],[]),(3,[1000003,3,4],[])],[]⟩
def G22(x:LI):Option ByteArray:=((A3 (fun(v0:ByteArray×Int)=>bif decide (v0.2<x.length)then bif decide (0<v0.2)then if(v0.1.size+(ByteArray.mk #[44]).size)<=9223372036854775807 then if 0<=v0.2/\v0.2<x.length then(G21 (x.getD v0.2.toNat 0)).bind λv1=>if((v0.1++(ByteArray.mk #[44])).size+v1.size)<=9223372036854775807 then some (LO.next ((v0.1++(ByteArray.mk #[44]))++v1,i64.wrap (v0.2+1)))else none else none else none else if 0<=v0.2/\v0.2<x.length then(G21 (x.getD v0.2.toNat 0)).bind λv1=>if(v0.1.size+v1.size)<=9223372036854775807 then some (LO.next (v0.1++v1,i64.wrap (v0.2+1)))else none else none else some (LO.brk 0 v0)) (ByteArray.mk #[],0)).bind (LO.fin λi0 v0=>if i0=0 then some v0.1 else none))
theorem t22:tfn E22 f22 S22=G22:=by kernel_rfl
theorem c22:FT prog 22 S22 G22:=Bz Bw (Ar a21 c21 AM) AL AN mixed func22 (by kernel_rfl) t22
theorem a22:Aj prog 22=true:=by kernel_rfl
def S11:Sig:=⟨[(true,(.pair yI (.pair yL (.pair yL (.pair (.sl .str) (.pair .str (.pair yI .str)))))))],[(false,0,.str)]⟩
def E11:Cb:=⟨⟨TB,[⟨21,S21,G21⟩,⟨22,S22,G22⟩],[],[],⟨52,[1],0⟩,[]⟩,[(3,[3,4],[]),(3,[1000003,3,4],[])],[]⟩
def G11(x:St):Option ByteArray:=((A3 (fun(v0:ByteArray×Int)=>bif decide (v0.2<x.2.2.2.1.length)then bif decide (0<v0.2)then if(v0.1.size+(ByteArray.mk #[47]).size)<=9223372036854775807 then if 0<=v0.2/\v0.2<x.2.2.2.1.length then if((v0.1++(ByteArray.mk #[47])).size+(x.2.2.2.1.getD v0.2.toNat (ByteArray.mk #[])).size)<=9223372036854775807 then some (LO.next ((v0.1++(ByteArray.mk #[47]))++(x.2.2.2.1.getD v0.2.toNat (ByteArray.mk #[])),i64.wrap (v0.2+1)))else none else none else none else if 0<=v0.2/\v0.2<x.2.2.2.1.length then if(v0.1.size+(x.2.2.2.1.getD v0.2.toNat (ByteArray.mk #[])).size)<=9223372036854775807 then some (LO.next (v0.1++(x.2.2.2.1.getD v0.2.toNat (ByteArray.mk #[])),i64.wrap (v0.2+1)))else none else none else some (LO.brk 0 v0)) (ByteArray.mk #[],0)).bind (LO.fin λi0 v0=>if i0=0 then(G21 x.1).bind λv1=>if(v1.size+(ByteArray.mk #[59]).size)<=9223372036854775807 then(G22 x.2.1).bind λv2=>if((v1++(ByteArray.mk #[59])).size+v2.size)<=9223372036854775807 then if(((v1++(ByteArray.mk #[59]))++v2).size+(ByteArray.mk #[59]).size)<=9223372036854775807 then(G22 x.2.2.1).bind λv3=>if((((v1++(ByteArray.mk #[59]))++v2)++(ByteArray.mk #[59])).size+v3.size)<=9223372036854775807 then if(((((v1++(ByteArray.mk #[59]))++v2)++(ByteArray.mk #[59]))++v3).size+(ByteArray.mk #[59]).size)<=9223372036854775807 then if((((((v1++(ByteArray.mk #[59]))++v2)++(ByteArray.mk #[59]))++v3)++(ByteArray.mk #[59])).size+v0.1.size)<=9223372036854775807 then if(((((((v1++(ByteArray.mk #[59]))++v2)++(ByteArray.mk #[59]))++v3)++(ByteArray.mk #[59]))++v0.1).size+(ByteArray.mk #[59]).size)<=9223372036854775807 then if((((((((v1++(ByteArray.mk #[59]))++v2)++(ByteArray.mk #[59]))++v3)++(ByteArray.mk #[59]))++v0.1)++(ByteArray.mk #[59])).size+x.2.2.2.2.1.size)<=9223372036854775807 then if(((((((((v1++(ByteArray.mk #[59]))++v2)++(ByteArray.mk #[59]))++v3)++(ByteArray.mk #[59]))++v0.1)++(ByteArray.mk #[59]))++x.2.2.2.2.1).size+(ByteArray.mk #[59]).size)<=9223372036854775807 then(G21 x.2.2.2.2.2.1).bind λv4=>if((((((((((v1++(ByteArray.mk #[59]))++v2)++(ByteArray.mk #[59]))++v3)++(ByteArray.mk #[59]))++v0.1)++(ByteArray.mk #[59]))++x.2.2.2.2.1)++(ByteArray.mk #[59])).size+v4.size)<=9223372036854775807 then if(((((((((((v1++(ByteArray.mk #[59]))++v2)++(ByteArray.mk #[59]))++v3)++(ByteArray.mk #[59]))++v0.1)++(ByteArray.mk #[59]))++x.2.2.2.2.1)++(ByteArray.mk #[59]))++v4).size+(ByteArray.mk #[59]).size)<=9223372036854775807 then if((((((((((((v1++(ByteArray.mk #[59]))++v2)++(ByteArray.mk #[59]))++v3)++(ByteArray.mk #[59]))++v0.1)++(ByteArray.mk #[59]))++x.2.2.2.2.1)++(ByteArray.mk #[59]))++v4)++(ByteArray.mk #[59])).size+x.2.2.2.2.2.2.size)<=9223372036854775807 then some ((((((((((((v1++(ByteArray.mk #[59]))++v2)++(ByteArray.mk #[59]))++v3)++(ByteArray.mk #[59]))++v0.1)++(ByteArray.mk #[59]))++x.2.2.2.2.1)++(ByteArray.mk #[59]))++v4)++(ByteArray.mk #[59]))++x.2.2.2.2.2.2)else none else none else none else none else none else none else none else none else none else none else none else none else none))
theorem t11:tfn E11 f11 S11=G11:=by kernel_rfl
theorem c11:FT prog 11 S11 G11:=Bz Bw (Ar a21 c21 (Ar a22 c22 AM)) AL AN mixed func11 (by kernel_rfl) t11
theorem a11:Aj prog 11=true:=by kernel_rfl
def S5:Sig:=⟨[(false,(.sl (.pair yI (.pair yL (.pair yL (.pair (.sl .str) (.pair .str (.pair yI .str))))))))],[(false,0,.str),(false,0,yI)]⟩
def E5:Cb:=⟨⟨TB,[⟨10,S10,G10⟩,⟨11,S11,G11⟩],[],[],⟨30,[],0⟩,[]⟩,[(5,[4,5],[]),(5,[1000005,4,5],[])],[]⟩
def G5(x:List St):Option (ByteArray×Int):=(bif decide (40<(x.length:Int))then some (ByteArray.mk #[],1)else(A3 (fun(v0:ByteArray×Int)=>bif decide (v0.2<x.length)then if 0<=v0.2/\v0.2<x.length then(G10 (x.getD v0.2.toNat s0)).bind λv1=>bif !v1 then HO (some (ByteArray.mk #[],1))else if 0<=v0.2/\v0.2<x.length then(G11 (x.getD v0.2.toNat s0)).bind λv2=>if(v0.1.size+v2.size)<=9223372036854775807 then if((v0.1++v2).size+(ByteArray.mk #[10]).size)<=9223372036854775807 then some (LO.next ((v0.1++v2)++(ByteArray.mk #[10]),i64.wrap (v0.2+1)))else none else none else none else none else some (LO.brk 0 v0)) (ByteArray.mk #[],0)).bind (LO.fin λi0 v0=>if i0=0 then some (v0.1,0)else none))
theorem t5:tfn E5 f5 S5=G5:=by kernel_rfl
theorem c5:FT prog 5 S5 G5:=Bz Bw (Ar a10 c10 (Ar a11 c11 AM)) AL AN mixed func5 (by kernel_rfl) t5
theorem a5:Aj prog 5=true:=by kernel_rfl
def S34:Sig:=⟨[(false,yI),(false,yI),(false,yI)],[(false,0,.bool)]⟩
def E34:Cb:=⟨⟨TB,[],[],[],⟨15,[],0⟩,[]⟩,[],[]⟩
def G34(x:(Int×Int×Int)):Option Bool:=(Option.bind (bif decide (x.2.1<=x.1)then some (decide (x.1<=x.2.2))else some false) (fun(v0:Bool)=>some v0))
theorem t34:tfn E34 f34 S34=G34:=by kernel_rfl
theorem c34:FT prog 34 S34 G34:=Bz Bw AM AL AN mixed func34 (by kernel_rfl) t34
theorem a34:Aj prog 34=true:=by kernel_rfl
def S25:Sig:=⟨[(false,yL),(false,yI)],[(false,0,.bool)]⟩
def E25:Cb:=⟨⟨TB,[⟨34,S34,G34⟩],[],[],⟨19,[],0⟩,[]⟩,[(2,[9],[2000007,2000008]),(2,[1000002,7,8,9],[])],[]⟩
def G25(x:(LI×Int)):Option Bool:=((A3 (fun(v0:Int)=>bif decide (v0<x.1.length)then if 0<=v0/\v0<x.1.length then(G34 (x.1.getD v0.toNat 0,0,i64.wrap (x.2-1))).bind λv1=>bif !v1 then HO (some false)else some (LO.next (i64.wrap (v0+1)))else none else some (LO.brk 0 v0)) 0).bind (LO.fin λi0 v0=>if i0=0 then some true else none))
theorem t25:tfn E25 f25 S25=G25:=by kernel_rfl
theorem c25:FT prog 25 S25 G25:=Bz Bw (Ar a34 c34 AM) AL AN mixed func25 (by kernel_rfl) t25
theorem a25:Aj prog 25=true:=by kernel_rfl
def S35:Sig:=⟨[(false,(.sl .str)),(false,.str)],[(false,0,yI)]⟩
def E35:Cb:=⟨⟨TB,[],[],[],⟨19,[],0⟩,[]⟩,[(2,[8],[2000007]),(2,[1000002,7,8],[])],[]⟩
def G35(x:((List ByteArray)×ByteArray)):Option Int:=((A3 (fun(v0:Int)=>bif decide (v0<x.1.length)then if 0<=v0/\v0<x.1.length then bif eqS x.2 (x.1.getD v0.toNat (ByteArray.mk #[]))then HO (some v0)else some (LO.next (i64.wrap (v0+1)))else none else some (LO.brk 0 v0)) 0).bind (LO.fin λi0 v0=>if i0=0 then some (-1)else none))
theorem t35:tfn E35 f35 S35=G35:=by kernel_rfl
theorem c35:FT prog 35 S35 G35:=Bz Bw AM AL AN mixed func35 (by kernel_rfl) t35
theorem a35:Aj prog 35=true:=by kernel_rfl
def S26:Sig:=⟨[(false,(.sl .str)),(false,.str)],[(false,0,.bool)]⟩
def E26:Cb:=⟨⟨TB,[⟨35,S35,G35⟩],[],[],⟨9,[],0⟩,[]⟩,[],[]⟩
def G26(x:((List ByteArray)×ByteArray)):Option Bool:=((G35 x).bind λv0=>some (decide (0<=v0)))
theorem t26:tfn E26 f26 S26=G26:=by kernel_rfl
theorem c26:FT prog 26 S26 G26:=Bz Bw (Ar a35 c35 AM) AL AN mixed func26 (by kernel_rfl) t26
theorem a26:Aj prog 26=true:=by kernel_rfl
def S27:Sig:=⟨[(false,(.sl .str))],[(false,1,(.sl .str))]⟩
def E27:Cb:=⟨⟨TB,[],[],[],⟨8,[],0⟩,[]⟩,[],[]⟩
def G27a(x:(List ByteArray)):Option (List ByteArray):=(if 0<x.length then if(([]:(List ByteArray)).length+x.length)<=8796093022208 then some (([]:(List ByteArray))++x)else none else none)
theorem t27:tfn E27 f27 S27=G27a:=by kernel_rfl
theorem c27a:FT prog 27 S27 G27a:=Bz Bw AM AL AN mixed func27 (by kernel_rfl) t27
def G27(x:(List ByteArray)):Option (List ByteArray):=if x.length=0 then some []else G27a x
theorem c27:FT prog 27 S27 G27:=FT_or c27a λx y h=>by
 unfold G27 at h;split at h
 ·rename_i h0;cases x with
 |nil=>cases h;exact .inr (Yq _)
 |cons a l=>simp at h0
 ·exact .inl h
theorem a27:Aj prog 27=true:=by kernel_rfl
def S13:Sig:=⟨[(false,(.ptr (.pair yI (.pair yL (.pair yL (.pair (.sl .str) (.pair .str (.pair yI .str))))))))],[(false,0,.bool)]⟩
def E13:Cb:=⟨⟨TB,[⟨28,S28,G28⟩,⟨25,S25,G25⟩,⟨26,S26,G26⟩,⟨27,S27,G27⟩],[],[],⟨66,[41],0⟩,[]⟩,[(5,[57,59],[1057001,2000058]),(5,[1000005,57,58,59],[])],[(4,17)]⟩
def G13(x:St):Option Bool:=(if((x.1::(x.2.2.2.2.2.1:: [])).length+x.2.1.length)<=17592186044416 then if(((x.1::(x.2.2.2.2.2.1:: []))++x.2.1).length+x.2.2.1.length)<=17592186044416 then(G25 (((x.1::(x.2.2.2.2.2.1:: []))++x.2.1)++x.2.2.1,1000000000)).bind λv0=>Option.bind (bif !v0 then some true else some (decide (8<(x.2.2.2.1.length:Int)))) (fun(v1:Bool)=>Option.bind (bif v1 then some true else(G26 (x.2.2.2.1,ByteArray.mk #[])).bind λv2=>some v2) (fun(v2:Bool)=>bif v2 then some false else(G27 x.2.2.2.1).bind λv3=>if(v3.length+(x.2.2.2.2.1::(x.2.2.2.2.2.2:: [])).length)<=8796093022208 then(A3 (fun(v4:Int)=>bif decide (v4<(v3++(x.2.2.2.2.1::(x.2.2.2.2.2.2:: []))).length)then if 0<=v4/\v4<(v3++(x.2.2.2.2.1::(x.2.2.2.2.2.2:: []))).length then(G28 ((v3++(x.2.2.2.2.1::(x.2.2.2.2.2.2:: []))).getD v4.toNat (ByteArray.mk #[]),ByteArray.mk #[59,47,10])).bind λv5=>bif v5 then HO (some false)else some (LO.next (i64.wrap (v4+1)))else none else some (LO.brk 0 v4)) 0).bind (LO.fin λi4 v4=>if i4=0 then some true else none)else none))else none else none)
theorem t13:tfn E13 f13 S13=G13:=by kernel_rfl
theorem c13:FT prog 13 S13 G13:=Bz Bw (Ar a28 c28 (Ar a25 c25 (Ar a26 c26 (Ar a27 c27 AM)))) AL AN mixed func13 (by kernel_rfl) t13
theorem a13:Aj prog 13=true:=by kernel_rfl
def S29:Sig:=⟨[(false,yI),(false,yI)],[(false,0,.str)]⟩
def E29:Cb:=⟨⟨TB,[⟨37,S37,G37⟩],[],[],⟨8,[],0⟩,[]⟩,[],[]⟩
def G29(x:(Int×Int)):Option ByteArray:=((G37 x).bind λv0=>some v0)
theorem t29:tfn E29 f29 S29=G29:=by kernel_rfl
theorem c29:FT prog 29 S29 G29:=Bz Bw (Ar a37 c37 AM) AL AN mixed func29 (by kernel_rfl) t29
theorem a29:Aj prog 29=true:=by kernel_rfl
def S30:Sig:=⟨[(false,yL)],[(false,0,.str)]⟩
def E30:Cb:=⟨⟨TB,[⟨31,S31,G31⟩,⟨29,S29,G29⟩],[],[],⟨21,[],0⟩,[]⟩,[(3,[3,9],[0,1003000,2000007,2000008]),(3,[1000003,3,7,8,9],[])],[]⟩
def G30(x:LI):Option ByteArray:=((A3 (fun(v0:(Int×(List ByteArray)))=>bif decide (v0.1<x.length)then if 0<=v0.1/\v0.1<x.length then(G29 (x.getD v0.1.toNat 0,10)).bind λv1=>if(v0.2.length+(v1:: []).length)<=8796093022208 then some (LO.next (i64.wrap (v0.1+1),v0.2++(v1:: [])))else none else none else some (LO.brk 0 v0)) (0,[])).bind (LO.fin λi0 v0=>if i0=0 then(G31 (v0.2,ByteArray.mk #[44])).bind λv1=>some v1 else none))
theorem t30:tfn E30 f30 S30=G30:=by kernel_rfl
theorem c30:FT prog 30 S30 G30:=Bz Bw (Ar a31 c31 (Ar a29 c29 AM)) AL AN mixed func30 (by kernel_rfl) t30
theorem a30:Aj prog 30=true:=by kernel_rfl
def S14:Sig:=⟨[(false,(.ptr (.pair yI (.pair yL (.pair yL (.pair (.sl .str) (.pair .str (.pair yI .str))))))))],[(false,0,.str)]⟩
def E14:Cb:=⟨⟨TB,[⟨31,S31,G31⟩,⟨29,S29,G29⟩,⟨30,S30,G30⟩],[],[],⟨41,[],0⟩,[]⟩,[],[]⟩
def G14(x:St):Option ByteArray:=((G29 (x.1,10)).bind λv0=>(G30 x.2.1).bind λv1=>(G30 x.2.2.1).bind λv2=>(G31 (x.2.2.2.1,ByteArray.mk #[47])).bind λv3=>(G29 (x.2.2.2.2.2.1,10)).bind λv4=>(G31 ((v0::(v1::(v2::(v3::(x.2.2.2.2.1::(v4::(x.2.2.2.2.2.2:: []))))))),ByteArray.mk #[59])).bind λv5=>if(v5.size+(ByteArray.mk #[10]).size)<=9223372036854775807 then some (v5++(ByteArray.mk #[10]))else none)
theorem t14:tfn E14 f14 S14=G14:=by kernel_rfl
theorem c14:FT prog 14 S14 G14:=Bz Bw (Ar a31 c31 (Ar a29 c29 (Ar a30 c30 AM))) AL AN mixed func14 (by kernel_rfl) t14
theorem a14:Aj prog 14=true:=by kernel_rfl
def S7:Sig:=⟨[(false,(.sl (.pair yI (.pair yL (.pair yL (.pair (.sl .str) (.pair .str (.pair yI .str))))))))],[(false,0,.str),(false,0,yI)]⟩
def E7:Cb:=⟨⟨TB,[⟨13,S13,G13⟩,⟨14,S14,G14⟩],[],[],⟨27,[],0⟩,[]⟩,[(5,[4,11],[2000010]),(5,[1000005,4,10,11],[])],[]⟩
def G7(x:List St):Option (ByteArray×Int):=(bif decide (40<(x.length:Int))then some (ByteArray.mk #[],1)else(A3 (fun(v0:ByteArray×Int)=>bif decide (v0.2<x.length)then if 0<=v0.2/\v0.2<x.length then(G13 (x.getD v0.2.toNat s0)).bind λv1=>bif !v1 then HO (some (ByteArray.mk #[],1))else if 0<=v0.2/\v0.2<x.length then(G14 (x.getD v0.2.toNat s0)).bind λv2=>if(v0.1.size+v2.size)<=9223372036854775807 then some (LO.next (v0.1++v2,i64.wrap (v0.2+1)))else none else none else none else some (LO.brk 0 v0)) (ByteArray.mk #[],0)).bind (LO.fin λi0 v0=>if i0=0 then some (v0.1,0)else none))
theorem t7:tfn E7 f7 S7=G7:=by kernel_rfl
theorem c7:FT prog 7 S7 G7:=Bz Bw (Ar a13 c13 (Ar a14 c14 AM)) AL AN mixed func7 (by kernel_rfl) t7
theorem a7:Aj prog 7=true:=by kernel_rfl
def S32:Sig:=⟨[(false,yL),(false,yL)],[(false,0,.bool)]⟩
def E32:Cb:=⟨⟨TB,[],[],[],⟨26,[],0⟩,[]⟩,[(4,[5],[]),(4,[1000004,5],[])],[]⟩
def G32(x:(LI×LI)):Option Bool:=(bif !decide ((x.1.length:Int)=(x.2.length:Int))then some false else(A3 (fun(v0:Int)=>bif decide (v0<x.1.length)then if 0<=v0/\v0<x.1.length then if 0<=v0/\v0<x.2.length then bif !decide ((x.1.getD v0.toNat 0)=(x.2.getD v0.toNat 0))then HO (some false)else some (LO.next (i64.wrap (v0+1)))else none else none else some (LO.brk 0 v0)) 0).bind (LO.fin λi0 v0=>if i0=0 then some true else none))
theorem t32:tfn E32 f32 S32=G32:=by kernel_rfl
theorem c32:FT prog 32 S32 G32:=Bz Bw AM AL AN mixed func32 (by kernel_rfl) t32
theorem a32:Aj prog 32=true:=by kernel_rfl
def S33:Sig:=⟨[(false,(.sl .str)),(false,(.sl .str))],[(false,0,.bool)]⟩
def E33:Cb:=⟨⟨TB,[],[],[],⟨26,[],0⟩,[]⟩,[(4,[5],[]),(4,[1000004,5],[])],[]⟩
def G33(x:((List ByteArray)×(List ByteArray))):Option Bool:=(bif !decide ((x.1.length:Int)=(x.2.length:Int))then some false else(A3 (fun(v0:Int)=>bif decide (v0<x.1.length)then if 0<=v0/\v0<x.1.length then if 0<=v0/\v0<x.2.length then bif neS (x.1.getD v0.toNat (ByteArray.mk #[])) (x.2.getD v0.toNat (ByteArray.mk #[]))then HO (some false)else some (LO.next (i64.wrap (v0+1)))else none else none else some (LO.brk 0 v0)) 0).bind (LO.fin λi0 v0=>if i0=0 then some true else none))
theorem t33:tfn E33 f33 S33=G33:=by kernel_rfl
theorem c33:FT prog 33 S33 G33:=Bz Bw AM AL AN mixed func33 (by kernel_rfl) t33
theorem a33:Aj prog 33=true:=by kernel_rfl
def S15:Sig:=⟨[(true,(.pair yI (.pair yL (.pair yL (.pair (.sl .str) (.pair .str (.pair yI .str))))))),(true,(.pair yI (.pair yL (.pair yL (.pair (.sl .str) (.pair .str (.pair yI .str)))))))],[(false,0,.bool)]⟩
def E15:Cb:=⟨⟨TB,[⟨32,S32,G32⟩,⟨33,S33,G33⟩],[],[],⟨43,[2,3],0⟩,[]⟩,[],[]⟩
def G15(x:(St×St)):Option Bool:=(bif !decide (x.1.1=x.2.1)then some false else(G32 (x.1.2.1,x.2.2.1)).bind λv0=>bif !v0 then some false else(G32 (x.1.2.2.1,x.2.2.2.1)).bind λv1=>bif !v1 then some false else(G33 (x.1.2.2.2.1,x.2.2.2.2.1)).bind λv2=>bif !v2 then some false else bif neS x.1.2.2.2.2.1 x.2.2.2.2.2.1 then some false else bif !decide (x.1.2.2.2.2.2.1=x.2.2.2.2.2.2.1)then some false else bif neS x.1.2.2.2.2.2.2 x.2.2.2.2.2.2.2 then some false else some true)
theorem t15:tfn E15 f15 S15=G15:=by kernel_rfl
theorem c15:FT prog 15 S15 G15:=Bz Bw (Ar a32 c32 (Ar a33 c33 AM)) AL AN mixed func15 (by kernel_rfl) t15
theorem a15:Aj prog 15=true:=by kernel_rfl
def S8:Sig:=⟨[(false,(.sl (.pair yI (.pair yL (.pair yL (.pair (.sl .str) (.pair .str (.pair yI .str)))))))),(false,(.sl (.pair yI (.pair yL (.pair yL (.pair (.sl .str) (.pair .str (.pair yI .str))))))))],[(false,0,.bool)]⟩
def E8:Cb:=⟨⟨TB,[⟨15,S15,G15⟩],[],[],⟨27,[],0⟩,[]⟩,[(4,[5],[]),(4,[1000004,5],[])],[]⟩
def G8(x:(List St×List St)):Option Bool:=(bif !decide ((x.1.length:Int)=(x.2.length:Int))then some false else(A3 (fun(v0:Int)=>bif decide (v0<x.1.length)then if 0<=v0/\v0<x.1.length then if 0<=v0/\v0<x.2.length then(G15 ((x.1.getD v0.toNat s0),(x.2.getD v0.toNat s0).1,(x.2.getD v0.toNat s0).2.1,(x.2.getD v0.toNat s0).2.2.1,(x.2.getD v0.toNat s0).2.2.2.1,(x.2.getD v0.toNat s0).2.2.2.2.1,(x.2.getD v0.toNat s0).2.2.2.2.2.1,(x.2.getD v0.toNat s0).2.2.2.2.2.2)).bind λv1=>bif !v1 then HO (some false)else some (LO.next (i64.wrap (v0+1)))else none else none else some (LO.brk 0 v0)) 0).bind (LO.fin λi0 v0=>if i0=0 then some true else none))
theorem t8:tfn E8 f8 S8=G8:=by kernel_rfl
theorem c8:FT prog 8 S8 G8:=Bz Bw (Ar a15 c15 AM) AL AN mixed func8 (by kernel_rfl) t8
theorem a8:Aj prog 8=true:=by kernel_rfl
def S3:Sig:=⟨[(false,(.sl (.pair yI (.pair yL (.pair yL (.pair (.sl .str) (.pair .str (.pair yI .str))))))))],[(false,0,.bool)]⟩
def E3:Cb:=⟨⟨TB,[⟨4,S4,G4⟩,⟨6,S6,G6⟩,⟨5,S5,G5⟩,⟨7,S7,G7⟩,⟨8,S8,G8⟩],[],[],⟨40,[],0⟩,[]⟩,[],[]⟩
def G3(x:List St):Option Bool:=((G4 (x,1048576)).bind λv0=>bif decide (v0<0)then some true else(G6 x).bind λv1=>(G5 v1).bind λv2=>(G6 x).bind λv3=>(G7 v3).bind λv4=>Option.bind (bif neS v4.1 v2.1 then some true else some (!decide (v4.2=v2.2))) (fun(v5:Bool)=>bif v5 then some false else(G6 x).bind λv6=>(G8 (v3,v6)).bind λv7=>bif !v7 then some false else some true))
theorem t3:tfn E3 f3 S3=G3:=by kernel_rfl
theorem c3:FT prog 3 S3 G3:=Bz Bw (Ar a4 c4 (Ar a6 c6 (Ar a5 c5 (Ar a7 c7 (Ar a8 c8 AM))))) AL AN mixed func3 (by kernel_rfl) t3
theorem a3:Aj prog 3=true:=by kernel_rfl
end
end Go.Ve.D

