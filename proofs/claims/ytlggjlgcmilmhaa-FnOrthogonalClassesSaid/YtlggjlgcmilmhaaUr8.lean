/- The program's types. -/
import Derived.Test.YtlggjlgcmilmhaaProg
import Derived.Test.YtlggjlgcmilmhaaTv
namespace Go.Ve
open Go.Proofs
def TB:Tab:=[
 (2,⟨(.int .i64),false,[],none,8,false,(some .i64),none,0,[],0⟩),
 (3,⟨(.int .i64),false,[],none,8,false,(some .i64),none,0,[],0⟩),
 (4,⟨(.bool),false,[],none,1,false,none,(some [9]),0,[],0⟩),
 (5,⟨(.int .u8),false,[],none,1,false,(some .u8),none,0,[],0⟩),
 (6,⟨(.int .u8),false,[],none,1,false,(some .u8),none,0,[],0⟩),
 (7,⟨(.pair (.int .i64) (.pair (.int .i64) (.pair (.bool) (.int .u8)))),true,[(0,1),(1,1),(2,1),(3,1)],none,24,false,none,(some [0,0,1,0]),0,[],0⟩),
 (8,⟨(.pair (.int .i64) (.pair (.int .i64) (.pair (.bool) (.int .u8)))),true,[(0,1),(1,1),(2,1),(3,1)],none,24,false,none,(some [0,0,1,0]),0,[],0⟩),
 (9,⟨(.str),false,[],none,16,true,none,none,0,[],0⟩),
 (10,⟨(.str),false,[],none,16,true,none,none,0,[],0⟩),
 (11,⟨(.str),false,[],none,16,true,none,none,0,[],0⟩),
 (12,⟨(.int .u64),false,[],none,8,false,(some .u64),none,0,[],0⟩),
 (13,⟨(.pair (.str) (.int .u64)),true,[(0,1),(1,1)],none,24,false,none,none,0,[],0⟩),
 (14,⟨(.pair (.str) (.int .u64)),true,[(0,1),(1,1)],none,24,false,none,none,0,[],0⟩),
 (21,⟨(.int .i32),false,[],none,4,false,(some .i32),none,0,[],0⟩),
 (22,⟨(.sl (.int .u8)),false,[],(some 5),24,false,none,none,1,[],0⟩),
 (24,⟨(.sl (.int .i64)),false,[],(some 2),24,false,none,none,1,[],0⟩),
 (25,⟨(.sl (.sl (.int .i64))),false,[],(some 24),24,false,none,none,2,[],0⟩),
 (26,⟨(.pair (.int .i64) (.pair (.sl (.int .i64)) (.pair (.sl (.int .i64)) (.pair (.sl (.int .i64)) (.sl (.sl (.int .i64))))))),true,[(0,1),(1,1),(2,1),(3,1),(4,1)],none,104,false,none,none,2,[],0⟩),
 (27,⟨(.pair (.int .i64) (.pair (.sl (.int .i64)) (.pair (.sl (.int .i64)) (.pair (.sl (.int .i64)) (.sl (.sl (.int .i64))))))),true,[(0,1),(1,1),(2,1),(3,1),(4,1)],none,104,false,none,none,2,[],0⟩),
 (39,⟨(.ptr (.pair (.sl (.int .u8)) (.pair (.int .i64) (.int .u64)))),false,[],none,8,false,none,none,2,[],0⟩),
 (41,⟨(.int .u64),false,[],none,8,false,(some .u64),none,0,[],0⟩),
 (48,⟨(.ptr (.pair (.sl (.int .u8)) (.pair (.int .i64) (.int .u64)))),false,[],none,8,false,none,none,2,[],0⟩),
 (53,⟨(.ptr (.pair (.int .i64) (.pair (.sl (.int .i64)) (.pair (.sl (.int .i64)) (.pair (.sl (.int .i64)) (.sl (.sl (.int .i64)))))))),false,[],none,8,false,none,none,3,[],0⟩),
 (54,⟨(.sl (.sl (.bool))),false,[],(some 82),24,false,none,none,2,[],0⟩),
 (55,⟨(.sl (.sl (.bool))),false,[],(some 82),24,false,none,none,2,[],0⟩),
 (64,⟨(.pair (.bool) (.pair (.bool) (.pair (.bool) (.pair (.bool) (.bool))))),true,[],none,5,false,none,(some [1,1,1,1,1]),0,[],5⟩),
 (67,⟨(.pair (.sl (.int .u8)) (.pair (.int .i64) (.int .u64))),true,[(0,1),(1,1),(2,1)],none,40,false,none,none,1,[],0⟩),
 (68,⟨(.pair (.sl (.int .u8)) (.pair (.int .i64) (.int .u64))),true,[(0,1),(1,1),(2,1)],none,40,false,none,none,1,[],0⟩),
 (69,⟨(.int .u64),false,[],none,8,false,(some .u64),none,0,[],0⟩),
 (73,⟨(.pair (.int .i64) (.int .i64)),true,[(0,1),(1,1)],none,16,false,none,(some [0,0]),0,[],0⟩),
 (74,⟨(.pair (.int .i64) (.int .i64)),true,[(0,1),(1,1)],none,16,false,none,(some [0,0]),0,[],0⟩),
 (77,⟨(.pair (.sl (.int .u8)) (.pair (.int .i64) (.int .u64))),true,[(0,1),(1,1),(2,1)],none,40,false,none,none,1,[],0⟩),
 (78,⟨(.pair (.sl (.int .u8)) (.pair (.int .i64) (.int .u64))),true,[(0,1),(1,1),(2,1)],none,40,false,none,none,1,[],0⟩),
 (82,⟨(.sl (.bool)),false,[],(some 4),24,false,none,none,1,[],0⟩),
 (109,⟨(.sl (.pair (.int .i64) (.pair (.int .i64) (.sl (.int .i64))))),false,[],(some 112),24,false,none,none,0,[],0⟩),
 (111,⟨(.pair (.int .i64) (.pair (.int .i64) (.sl (.int .i64)))),true,[(0,1),(1,1),(2,1)],none,40,false,none,none,1,[],0⟩),
 (112,⟨(.pair (.int .i64) (.pair (.int .i64) (.sl (.int .i64)))),true,[(0,1),(1,1),(2,1)],none,40,false,none,none,0,[],0⟩),
 (122,⟨(.int .u32),false,[],none,4,false,(some .u32),none,0,[],0⟩),
 (123,⟨(.int .u8),false,[],none,1,false,(some .u8),none,0,[],0⟩),
 (124,⟨(.int .u8),false,[],none,1,false,(some .u8),none,0,[],0⟩),
 (126,⟨(.ptr (.int .u8)),false,[],none,8,false,none,none,1,[],0⟩),
 (127,⟨(.int .i32),false,[],none,4,false,(some .i32),none,0,[],0⟩),
 (128,⟨(.int .i32),false,[],none,4,false,(some .i32),none,0,[],0⟩)]
theorem AH:Tab.OK Try.prog TB:=Tab.ok_of (by kernel_rfl)
theorem mixed:Try.prog.follows .mixedOrders=true:=by kernel_rfl
end Go.Ve

