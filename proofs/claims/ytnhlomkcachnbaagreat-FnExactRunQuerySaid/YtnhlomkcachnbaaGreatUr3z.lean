/- The program's types. -/
import Derived.Test.YtnhlomkcachnbaaGreatProg
import Derived.Test.YtnhlomkcachnbaaGreatTv
namespace Go.Ve
open Go.Proofs
def TB:Tab:=[
 (101,⟨(.clo 79 (.pair (.ptr (.ptr (.pair (.int .i64) (.pair (.sl (.int .i64)) (.pair (.sl (.int .i64)) (.pair (.sl (.int .i64)) (.pair (.sl (.sl (.int .i64))) (.pair (.sl (.int .i64)) (.sl (.sl (.int .i64))))))))))) (.pair (.ptr (.pair (.int .i64) (.int .i64))) (.ptr (.pair (.int .i64) (.int .i64)))))),false,[],none,8,false,none,none,0,[]⟩),
 (102,⟨(.clo 79 (.pair (.ptr (.ptr (.pair (.int .i64) (.pair (.sl (.int .i64)) (.pair (.sl (.int .i64)) (.pair (.sl (.int .i64)) (.pair (.sl (.sl (.int .i64))) (.pair (.sl (.int .i64)) (.sl (.sl (.int .i64))))))))))) (.pair (.ptr (.pair (.int .i64) (.int .i64))) (.ptr (.pair (.int .i64) (.int .i64)))))),false,[],none,8,false,none,none,0,[]⟩),
 (96,⟨(.sl (.clo 79 (.pair (.ptr (.ptr (.pair (.int .i64) (.pair (.sl (.int .i64)) (.pair (.sl (.int .i64)) (.pair (.sl (.int .i64)) (.pair (.sl (.sl (.int .i64))) (.pair (.sl (.int .i64)) (.sl (.sl (.int .i64))))))))))) (.pair (.ptr (.pair (.int .i64) (.int .i64))) (.ptr (.pair (.int .i64) (.int .i64))))))),false,[],(some 102),24,false,none,none,1,[]⟩),
 (103,⟨(.clo 68 (.ptr (.sl (.int .i64)))),false,[],none,8,false,none,none,0,[]⟩),
 (2,⟨(.int .i64),false,[],none,8,false,(some .i64),none,0,[]⟩),
 (3,⟨(.int .i64),false,[],none,8,false,(some .i64),none,0,[]⟩),
 (4,⟨(.bool),false,[],none,1,false,none,(some [9]),0,[]⟩),
 (5,⟨(.int .u8),false,[],none,1,false,(some .u8),none,0,[]⟩),
 (6,⟨(.int .u8),false,[],none,1,false,(some .u8),none,0,[]⟩),
 (7,⟨(.pair (.int .i64) (.pair (.int .i64) (.pair (.bool) (.int .u8)))),true,[(0,1),(1,1),(2,1),(3,1)],none,24,false,none,(some [0,0,1,0]),0,[]⟩),
 (8,⟨(.pair (.int .i64) (.pair (.int .i64) (.pair (.bool) (.int .u8)))),true,[(0,1),(1,1),(2,1),(3,1)],none,24,false,none,(some [0,0,1,0]),0,[]⟩),
 (9,⟨(.str),false,[],none,16,true,none,none,0,[]⟩),
 (10,⟨(.str),false,[],none,16,true,none,none,0,[]⟩),
 (11,⟨(.str),false,[],none,16,true,none,none,0,[]⟩),
 (12,⟨(.int .u64),false,[],none,8,false,(some .u64),none,0,[]⟩),
 (13,⟨(.pair (.str) (.int .u64)),true,[(0,1),(1,1)],none,24,false,none,none,0,[]⟩),
 (14,⟨(.pair (.str) (.int .u64)),true,[(0,1),(1,1)],none,24,false,none,none,0,[]⟩),
 (21,⟨(.int .i32),false,[],none,4,false,(some .i32),none,0,[]⟩),
 (22,⟨(.sl (.int .i64)),false,[],(some 2),24,false,none,none,1,[]⟩),
 (23,⟨(.sl (.sl (.int .i64))),false,[],(some 22),24,false,none,none,2,[]⟩),
 (24,⟨(.pair (.int .i64) (.pair (.sl (.int .i64)) (.pair (.sl (.int .i64)) (.pair (.sl (.int .i64)) (.sl (.sl (.int .i64))))))),true,[(0,1),(1,1),(2,1),(3,1),(4,1)],none,104,false,none,none,2,[]⟩),
 (25,⟨(.pair (.int .i64) (.pair (.sl (.int .i64)) (.pair (.sl (.int .i64)) (.pair (.sl (.int .i64)) (.sl (.sl (.int .i64))))))),true,[(0,1),(1,1),(2,1),(3,1),(4,1)],none,104,false,none,none,2,[]⟩),
 (26,⟨(.pair (.int .i64) (.pair (.sl (.int .i64)) (.pair (.sl (.int .i64)) (.pair (.sl (.int .i64)) (.pair (.sl (.sl (.int .i64))) (.pair (.sl (.int .i64)) (.sl (.sl (.int .i64))))))))),true,[(0,5),(5,1),(6,1)],none,152,false,none,none,2,[]⟩),
 (27,⟨(.pair (.int .i64) (.pair (.sl (.int .i64)) (.pair (.sl (.int .i64)) (.pair (.sl (.int .i64)) (.pair (.sl (.sl (.int .i64))) (.pair (.sl (.int .i64)) (.sl (.sl (.int .i64))))))))),true,[(0,5),(5,1),(6,1)],none,152,false,none,none,2,[]⟩),
 (28,⟨(.sl (.pair (.int .i64) (.int .i64))),false,[],(some 78),24,false,none,none,1,[]⟩),
 (29,⟨(.pair (.sl (.int .i64)) (.pair (.sl (.pair (.int .i64) (.int .i64))) (.pair (.sl (.pair (.int .i64) (.int .i64))) (.sl (.int .i64))))),true,[(0,1),(1,1),(2,1),(3,1)],none,96,false,none,none,1,[]⟩),
 (30,⟨(.pair (.sl (.int .i64)) (.pair (.sl (.pair (.int .i64) (.int .i64))) (.pair (.sl (.pair (.int .i64) (.int .i64))) (.sl (.int .i64))))),true,[(0,1),(1,1),(2,1),(3,1)],none,96,false,none,none,1,[]⟩),
 (35,⟨(.pair (.int .i64) (.pair (.sl (.int .i64)) (.pair (.sl (.int .i64)) (.pair (.sl (.int .i64)) (.sl (.sl (.int .i64))))))),true,[(0,1),(1,1),(2,1),(3,1),(4,1)],none,104,false,none,none,2,[]⟩),
 (36,⟨(.pair (.int .i64) (.pair (.sl (.int .i64)) (.pair (.sl (.int .i64)) (.pair (.sl (.int .i64)) (.pair (.sl (.sl (.int .i64))) (.pair (.sl (.int .i64)) (.sl (.sl (.int .i64))))))))),true,[(0,5),(5,1),(6,1)],none,152,false,none,none,2,[]⟩),
 (37,⟨(.pair (.int .i64) (.pair (.sl (.int .i64)) (.pair (.sl (.int .i64)) (.pair (.sl (.int .i64)) (.pair (.sl (.sl (.int .i64))) (.pair (.sl (.int .i64)) (.sl (.sl (.int .i64))))))))),true,[(0,5),(5,1),(6,1)],none,152,false,none,none,2,[]⟩),
 (39,⟨(.sl (.pair (.int .i64) (.int .i64))),false,[],(some 76),24,false,none,none,1,[]⟩),
 (40,⟨(.pair (.sl (.int .i64)) (.pair (.sl (.pair (.int .i64) (.int .i64))) (.pair (.sl (.pair (.int .i64) (.int .i64))) (.sl (.int .i64))))),true,[(0,1),(1,1),(2,1),(3,1)],none,96,false,none,none,1,[]⟩),
 (41,⟨(.pair (.sl (.int .i64)) (.pair (.sl (.pair (.int .i64) (.int .i64))) (.pair (.sl (.pair (.int .i64) (.int .i64))) (.sl (.int .i64))))),true,[(0,1),(1,1),(2,1),(3,1)],none,96,false,none,none,1,[]⟩),
 (60,⟨(.ptr (.pair (.int .i64) (.pair (.sl (.int .i64)) (.pair (.sl (.int .i64)) (.pair (.sl (.int .i64)) (.pair (.sl (.sl (.int .i64))) (.pair (.sl (.int .i64)) (.sl (.sl (.int .i64)))))))))),false,[],none,8,false,none,none,3,[]⟩),
 (61,⟨(.ptr (.pair (.sl (.int .i64)) (.pair (.sl (.pair (.int .i64) (.int .i64))) (.pair (.sl (.pair (.int .i64) (.int .i64))) (.sl (.int .i64)))))),false,[],none,8,false,none,none,2,[]⟩),
 (72,⟨(.sl (.bool)),false,[],(some 4),24,false,none,none,1,[]⟩),
 (75,⟨(.pair (.int .i64) (.int .i64)),true,[(0,1),(1,1)],none,16,false,none,(some [0,0]),0,[]⟩),
 (76,⟨(.pair (.int .i64) (.int .i64)),true,[(0,1),(1,1)],none,16,false,none,(some [0,0]),0,[]⟩),
 (78,⟨(.pair (.int .i64) (.int .i64)),true,[(0,1),(1,1)],none,16,false,none,(some [0,0]),0,[]⟩),
 (93,⟨(.ptr (.pair (.int .i64) (.pair (.sl (.int .i64)) (.pair (.sl (.int .i64)) (.pair (.sl (.int .i64)) (.sl (.sl (.int .i64)))))))),false,[],none,8,false,none,none,3,[]⟩),
 (114,⟨(.int .u64),false,[],none,8,false,(some .u64),none,0,[]⟩),
 (118,⟨(.int .i64),false,[],none,8,false,(some .i64),none,0,[]⟩),
 (126,⟨(.int .u32),false,[],none,4,false,(some .u32),none,0,[]⟩),
 (128,⟨(.int .u64),false,[],none,8,false,(some .u64),none,0,[]⟩),
 (129,⟨(.pair (.int .i64) (.int .i64)),true,[(0,1),(1,1)],none,16,false,none,(some [0,0]),0,[]⟩),
 (130,⟨(.pair (.int .i64) (.int .i64)),true,[(0,1),(1,1)],none,16,false,none,(some [0,0]),0,[]⟩),
 (133,⟨(.int .u64),false,[],none,8,false,(some .u64),none,0,[]⟩),
 (137,⟨(.ptr (.int .i64)),false,[],none,8,false,none,none,1,[]⟩),
 (139,⟨(.ptr (.int .u64)),false,[],none,8,false,none,none,1,[]⟩),
 (149,⟨(.int .u8),false,[],none,1,false,(some .u8),none,0,[]⟩),
 (150,⟨(.int .u8),false,[],none,1,false,(some .u8),none,0,[]⟩),
 (152,⟨(.ptr (.int .u8)),false,[],none,8,false,none,none,1,[]⟩),
 (153,⟨(.int .i32),false,[],none,4,false,(some .i32),none,0,[]⟩),
 (154,⟨(.int .i32),false,[],none,4,false,(some .i32),none,0,[]⟩)]
theorem AA:Tab.OK Tryz.prog TB:=Tab.ok_of (by kernel_rfl)
theorem mixed:Tryz.prog.follows .mixedOrders=true:=by kernel_rfl
end Go.Ve


namespace Go.Ve.D
open Go Go.Ve Go.Proofs
set_option maxRecDepth 100000
def S70:Sig:=⟨[(false,(.sl (.int .i64))),(false,(.sl (.int .i64)))],[(false,0,(.int .i64))]⟩
noncomputable def E70:AW:=⟨⟨TB,[],[],[],⟨39,[],0⟩,[]⟩,[(2,[8],[2000007]),(2,[1000002,7,8],[])],[]⟩
noncomputable def G70(x:((List Int)×(List Int))):Option Int:=(Option.bind (Au (fun(v0:Int)=>(bif(decide (v0<((x.1.length:Nat):Int)))then(bif(decide (v0=((x.2.length:Nat):Int)))then(By (some (1:Int)))else(if(((0:Int)<=v0)/\(v0<((x.1.length:Nat):Int)))then(if(((0:Int)<=v0)/\(v0<((x.2.length:Nat):Int)))then(bif(!decide ((x.1.getD (v0).toNat (0:Int))=(x.2.getD (v0).toNat (0:Int))))then(if(((0:Int)<=v0)/\(v0<((x.1.length:Nat):Int)))then(if(((0:Int)<=v0)/\(v0<((x.2.length:Nat):Int)))then(bif(decide ((x.1.getD (v0).toNat (0:Int))<(x.2.getD (v0).toNat (0:Int))))then(By (some (-(1:Int))))else(By (some (1:Int))))else none)else none)else(some (LO.next (IntKind.wrap .i64 (v0+(1:Int))))))else none)else none))else(some (LO.brk 0 v0)))) (0:Int)) (LO.fin fun i0 (v0:Int)=>(if i0=0 then(bif(decide (((x.1.length:Nat):Int)<((x.2.length:Nat):Int)))then(some (-(1:Int)))else(some (0:Int)))else none)))
theorem t70:tfn E70 Tryz.f70 S70=G70:=by kernel_rfl
theorem c70:FT Tryz.prog 70 S70 G70:=AE AA Ai Ah Aj mixed Tryz.func70 (by kernel_rfl) t70
theorem a70:Ab Tryz.prog 70=true:=by kernel_rfl
def S51:Sig:=⟨[(false,(.sl (.int .i64))),(false,(.sl (.int .i64)))],[(false,0,.bool)]⟩
noncomputable def E51:AW:=⟨⟨TB,[⟨70,S70,G70⟩],[],[],⟨9,[],0⟩,[]⟩,[],[]⟩
noncomputable def G51(x:((List Int)×(List Int))):Option Bool:=(Option.bind (G70 (x.1,x.2)) (fun(v0:Int)=>(some (decide (v0=(0:Int))))))
theorem t51:tfn E51 Tryz.f51 S51=G51:=by kernel_rfl
theorem c51:FT Tryz.prog 51 S51 G51:=AE AA (Aa a70 c70 Ai) Ah Aj mixed Tryz.func51 (by kernel_rfl) t51
theorem a51:Ab Tryz.prog 51=true:=by kernel_rfl
end Go.Ve.D

