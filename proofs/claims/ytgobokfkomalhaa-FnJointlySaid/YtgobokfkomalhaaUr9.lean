/- The program's types. -/
import Derived.Test.YtgobokfkomalhaaProg
import Derived.Test.YtgobokfkomalhaaTv
namespace Go.Ve
open Go.Proofs
def TB:Tab:=[
 (2,⟨(.int .i64),false,[],none,8,false,(some .i64),none,0,[],0⟩),
 (3,⟨(.int .i64),false,[],none,8,false,(some .i64),none,0,[],0⟩),
 (4,⟨(.bool),false,[],none,1,false,none,(some [9]),0,[],0⟩),
 (5,⟨(.int .u8),false,[],none,1,false,(some .u8),none,0,[],0⟩),
 (6,⟨(.int .u8),false,[],none,1,false,(some .u8),none,0,[],0⟩),
 (7,⟨(.pair (.int .i64) (.pair (.int .i64) (.pair (.bool) (.int .u8)))),true,[(0,1),(1,1),(2,1),(3,1)],none,24,false,none,(some [0,0,1,0]),0,[],0⟩),
 (8,⟨(.pair (.int .i64) (.pair (.int .i64) (.pair (.bool) (.int .u8)))),true,[(0,1),(1,1),(2,1),(3,1)],none,24,false,none,(some [0,0,1,0]),0,[],0⟩),
 (9,⟨(.str),false,[],none,16,true,none,none,0,[],0⟩),
 (10,⟨(.str),false,[],none,16,true,none,none,0,[],0⟩),
 (11,⟨(.str),false,[],none,16,true,none,none,0,[],0⟩),
 (12,⟨(.int .u64),false,[],none,8,false,(some .u64),none,0,[],0⟩),
 (13,⟨(.pair (.str) (.int .u64)),true,[(0,1),(1,1)],none,24,false,none,none,0,[],0⟩),
 (14,⟨(.pair (.str) (.int .u64)),true,[(0,1),(1,1)],none,24,false,none,none,0,[],0⟩),
 (21,⟨(.int .i32),false,[],none,4,false,(some .i32),none,0,[],0⟩),
 (22,⟨(.sl (.int .u8)),false,[],(some 5),24,false,none,none,1,[],0⟩),
 (24,⟨(.sl (.int .i64)),false,[],(some 2),24,false,none,none,1,[],0⟩),
 (25,⟨(.sl (.sl (.int .i64))),false,[],(some 24),24,false,none,none,2,[],0⟩),
 (26,⟨(.pair (.int .i64) (.pair (.sl (.int .i64)) (.pair (.sl (.int .i64)) (.pair (.sl (.int .i64)) (.sl (.sl (.int .i64))))))),true,[(0,1),(1,1),(2,1),(3,1),(4,1)],none,104,false,none,none,2,[],0⟩),
 (27,⟨(.pair (.int .i64) (.pair (.sl (.int .i64)) (.pair (.sl (.int .i64)) (.pair (.sl (.int .i64)) (.sl (.sl (.int .i64))))))),true,[(0,1),(1,1),(2,1),(3,1),(4,1)],none,104,false,none,none,2,[],0⟩),
 (42,⟨(.pair (.int .i64) (.sl (.int .i64))),true,[(0,1),(1,1)],none,32,false,none,none,1,[],0⟩),
 (43,⟨(.pair (.int .i64) (.sl (.int .i64))),true,[(0,1),(1,1)],none,32,false,none,none,1,[],0⟩),
 (46,⟨(.pair (.int .i64) (.pair (.sl (.int .i64)) (.pair (.sl (.int .i64)) (.pair (.sl (.int .i64)) (.pair (.sl (.sl (.int .i64))) (.pair (.int .i64) (.pair (.sl (.int .i64)) (.pair (.sl (.int .i64)) (.pair (.sl (.int .i64)) (.pair (.sl (.sl (.int .i64))) (.pair (.sl (.int .i64)) (.sl (.int .i64))))))))))))),true,[(0,5),(5,5),(10,1),(11,1)],none,256,false,none,none,2,[],0⟩),
 (47,⟨(.pair (.int .i64) (.pair (.sl (.int .i64)) (.pair (.sl (.int .i64)) (.pair (.sl (.int .i64)) (.pair (.sl (.sl (.int .i64))) (.pair (.int .i64) (.pair (.sl (.int .i64)) (.pair (.sl (.int .i64)) (.pair (.sl (.int .i64)) (.pair (.sl (.sl (.int .i64))) (.pair (.sl (.int .i64)) (.sl (.int .i64))))))))))))),true,[(0,5),(5,5),(10,1),(11,1)],none,256,false,none,none,2,[],0⟩),
 (49,⟨(.ptr (.pair (.sl (.int .u8)) (.pair (.int .i64) (.int .u64)))),false,[],none,8,false,none,none,2,[],0⟩),
 (52,⟨(.ptr (.pair (.int .i64) (.pair (.sl (.int .i64)) (.pair (.sl (.int .i64)) (.pair (.sl (.int .i64)) (.sl (.sl (.int .i64)))))))),false,[],none,8,false,none,none,3,[],0⟩),
 (65,⟨(.pair (.int .i64) (.int .i64)),true,[(0,1),(1,1)],none,16,false,none,(some [0,0]),0,[],0⟩),
 (66,⟨(.pair (.int .i64) (.int .i64)),true,[(0,1),(1,1)],none,16,false,none,(some [0,0]),0,[],0⟩),
 (77,⟨(.ptr (.pair (.int .i64) (.pair (.sl (.int .i64)) (.pair (.sl (.int .i64)) (.pair (.sl (.int .i64)) (.pair (.sl (.sl (.int .i64))) (.pair (.int .i64) (.pair (.sl (.int .i64)) (.pair (.sl (.int .i64)) (.pair (.sl (.int .i64)) (.pair (.sl (.sl (.int .i64))) (.pair (.sl (.int .i64)) (.sl (.int .i64)))))))))))))),false,[],none,8,false,none,none,3,[],0⟩),
 (82,⟨(.int .u64),false,[],none,8,false,(some .u64),none,0,[],0⟩),
 (83,⟨(.pair (.sl (.int .u8)) (.pair (.int .i64) (.int .u64))),true,[(0,1),(1,1),(2,1)],none,40,false,none,none,1,[],0⟩),
 (84,⟨(.pair (.sl (.int .u8)) (.pair (.int .i64) (.int .u64))),true,[(0,1),(1,1),(2,1)],none,40,false,none,none,1,[],0⟩),
 (95,⟨(.pair (.int .i64) (.int .i64)),true,[(0,1),(1,1)],none,16,false,none,(some [0,0]),0,[],0⟩),
 (96,⟨(.pair (.int .i64) (.int .i64)),true,[(0,1),(1,1)],none,16,false,none,(some [0,0]),0,[],0⟩),
 (103,⟨(.sl (.pair (.int .i64) (.sl (.int .i64)))),false,[],(some 43),24,false,none,none,2,[],0⟩),
 (109,⟨(.int .u64),false,[],none,8,false,(some .u64),none,0,[],0⟩),
 (113,⟨(.sl (.pair (.int .i64) (.int .i64))),false,[],(some 96),24,false,none,none,1,[],0⟩),
 (115,⟨(.sl (.ptr (.pair (.int .i64) (.pair (.sl (.int .i64)) (.pair (.sl (.int .i64)) (.pair (.sl (.int .i64)) (.sl (.sl (.int .i64))))))))),false,[],(some 52),24,false,none,none,4,[],0⟩),
 (131,⟨(.sl (.pair (.int .i64) (.pair (.int .i64) (.sl (.int .i64))))),false,[],(some 134),24,false,none,none,0,[],0⟩),
 (133,⟨(.pair (.int .i64) (.pair (.int .i64) (.sl (.int .i64)))),true,[(0,1),(1,1),(2,1)],none,40,false,none,none,1,[],0⟩),
 (134,⟨(.pair (.int .i64) (.pair (.int .i64) (.sl (.int .i64)))),true,[(0,1),(1,1),(2,1)],none,40,false,none,none,0,[],0⟩),
 (143,⟨(.int .u32),false,[],none,4,false,(some .u32),none,0,[],0⟩),
 (144,⟨(.int .u8),false,[],none,1,false,(some .u8),none,0,[],0⟩),
 (145,⟨(.int .u8),false,[],none,1,false,(some .u8),none,0,[],0⟩),
 (147,⟨(.ptr (.int .u8)),false,[],none,8,false,none,none,1,[],0⟩),
 (148,⟨(.int .i32),false,[],none,4,false,(some .i32),none,0,[],0⟩),
 (149,⟨(.int .i32),false,[],none,4,false,(some .i32),none,0,[],0⟩)]
theorem AJ:Tab.OK Try.prog TB:=Tab.ok_of (by kernel_rfl)
theorem mixed:Try.prog.follows .mixedOrders=true:=by kernel_rfl
end Go.Ve

