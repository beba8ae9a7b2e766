/- The program's types. -/
import Derived.Test.YtcpgmjbppfdjbaaDoorProg
import Derived.Test.YtcpgmjbppfdjbaaDoorTv
namespace Go.Ve
open Go.Proofs
def TB:Tab:=[
 (2,⟨(.int .i64),false,[],none,8,false,(some .i64),none,0,[],0⟩),
 (3,⟨(.int .i64),false,[],none,8,false,(some .i64),none,0,[],0⟩),
 (4,⟨(.bool),false,[],none,1,false,none,(some [9]),0,[],0⟩),
 (5,⟨(.int .u8),false,[],none,1,false,(some .u8),none,0,[],0⟩),
 (6,⟨(.int .u8),false,[],none,1,false,(some .u8),none,0,[],0⟩),
 (9,⟨(.str),false,[],none,16,true,none,none,0,[],0⟩),
 (10,⟨(.str),false,[],none,16,true,none,none,0,[],0⟩),
 (11,⟨(.str),false,[],none,16,true,none,none,0,[],0⟩),
 (22,⟨(.sl (.pair (.int .i64) (.pair (.sl (.int .i64)) (.pair (.sl (.int .i64)) (.pair (.sl (.str)) (.pair (.str) (.pair (.int .i64) (.str)))))))),false,[],(some 34),24,false,none,none,2,[],0⟩),
 (26,⟨(.sl (.pair (.int .i64) (.pair (.sl (.int .i64)) (.pair (.sl (.int .i64)) (.pair (.sl (.str)) (.pair (.str) (.pair (.int .i64) (.str)))))))),false,[],(some 36),24,false,none,none,2,[],0⟩),
 (31,⟨(.sl (.int .i64)),false,[],(some 2),24,false,none,none,1,[],0⟩),
 (32,⟨(.sl (.str)),false,[],(some 9),24,false,none,none,1,[],0⟩),
 (33,⟨(.pair (.int .i64) (.pair (.sl (.int .i64)) (.pair (.sl (.int .i64)) (.pair (.sl (.str)) (.pair (.str) (.pair (.int .i64) (.str))))))),true,[(0,1),(1,1),(2,1),(3,1),(4,1),(5,1),(6,1)],none,120,false,none,none,1,[],0⟩),
 (34,⟨(.pair (.int .i64) (.pair (.sl (.int .i64)) (.pair (.sl (.int .i64)) (.pair (.sl (.str)) (.pair (.str) (.pair (.int .i64) (.str))))))),true,[(0,1),(1,1),(2,1),(3,1),(4,1),(5,1),(6,1)],none,120,false,none,none,1,[],0⟩),
 (36,⟨(.pair (.int .i64) (.pair (.sl (.int .i64)) (.pair (.sl (.int .i64)) (.pair (.sl (.str)) (.pair (.str) (.pair (.int .i64) (.str))))))),true,[(0,1),(1,1),(2,1),(3,1),(4,1),(5,1),(6,1)],none,120,false,none,none,1,[],0⟩),
 (59,⟨(.sl (.int .u8)),false,[],(some 5),24,false,none,none,1,[],0⟩),
 (51,⟨(.ptr (.pair (.int .i64) (.pair (.sl (.int .i64)) (.pair (.sl (.int .i64)) (.pair (.sl (.str)) (.pair (.str) (.pair (.int .i64) (.str)))))))),false,[],none,8,false,none,none,2,[],0⟩)]
theorem Bw:Tab.OK Tryd.prog TB:=Tab.ok_of (by kernel_rfl)
theorem mixed:Tryd.prog.follows .mixedOrders=true:=by kernel_rfl
end Go.Ve

