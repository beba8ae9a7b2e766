/- The program's types. -/
import Derived.Test.YtpaekmpjbalnfabProg
import Derived.Test.YtpaekmpjbalnfabTv
namespace Go.Ve
open Go.Proofs
def TB:Tab:=[
 (2,⟨(.int .i64),false,[],none,8,false,(some .i64),none,0,[]⟩),
 (3,⟨(.int .i64),false,[],none,8,false,(some .i64),none,0,[]⟩),
 (4,⟨(.bool),false,[],none,1,false,none,(some [9]),0,[]⟩),
 (5,⟨(.int .u8),false,[],none,1,false,(some .u8),none,0,[]⟩),
 (6,⟨(.int .u8),false,[],none,1,false,(some .u8),none,0,[]⟩),
 (7,⟨(.pair (.int .i64) (.pair (.int .i64) (.pair (.bool) (.int .u8)))),true,[(0,1),(1,1),(2,1),(3,1)],none,24,false,none,(some [0,0,1,0]),0,[]⟩),
 (8,⟨(.pair (.int .i64) (.pair (.int .i64) (.pair (.bool) (.int .u8)))),true,[(0,1),(1,1),(2,1),(3,1)],none,24,false,none,(some [0,0,1,0]),0,[]⟩),
 (9,⟨(.str),false,[],none,16,true,none,none,0,[]⟩),
 (10,⟨(.str),false,[],none,16,true,none,none,0,[]⟩),
 (11,⟨(.str),false,[],none,16,true,none,none,0,[]⟩),
 (12,⟨(.int .u64),false,[],none,8,false,(some .u64),none,0,[]⟩),
 (13,⟨(.pair (.str) (.int .u64)),true,[(0,1),(1,1)],none,24,false,none,none,0,[]⟩),
 (14,⟨(.pair (.str) (.int .u64)),true,[(0,1),(1,1)],none,24,false,none,none,0,[]⟩),
 (21,⟨(.int .i32),false,[],none,4,false,(some .i32),none,0,[]⟩),
 (22,⟨(.sl (.int .u8)),false,[],(some 5),24,false,none,none,1,[]⟩),
 (24,⟨(.sl (.sl (.int .i64))),false,[],(some 27),24,false,none,none,2,[]⟩),
 (27,⟨(.sl (.int .i64)),false,[],(some 2),24,false,none,none,1,[]⟩),
 (28,⟨(.pair (.int .i64) (.pair (.sl (.int .i64)) (.pair (.sl (.int .i64)) (.pair (.sl (.int .i64)) (.sl (.sl (.int .i64))))))),true,[(0,1),(1,1),(2,1),(3,1),(4,1)],none,104,false,none,none,2,[]⟩),
 (29,⟨(.pair (.int .i64) (.pair (.sl (.int .i64)) (.pair (.sl (.int .i64)) (.pair (.sl (.int .i64)) (.sl (.sl (.int .i64))))))),true,[(0,1),(1,1),(2,1),(3,1),(4,1)],none,104,false,none,none,2,[]⟩),
 (30,⟨(.pair (.int .i64) (.pair (.sl (.int .i64)) (.pair (.sl (.int .i64)) (.pair (.sl (.int .i64)) (.pair (.sl (.sl (.int .i64))) (.pair (.int .i64) (.pair (.sl (.sl (.int .i64))) (.sl (.sl (.int .i64)))))))))),true,[(0,5),(5,1),(6,1),(7,1)],none,160,false,none,none,2,[]⟩),
 (31,⟨(.pair (.int .i64) (.pair (.sl (.int .i64)) (.pair (.sl (.int .i64)) (.pair (.sl (.int .i64)) (.pair (.sl (.sl (.int .i64))) (.pair (.int .i64) (.pair (.sl (.sl (.int .i64))) (.sl (.sl (.int .i64)))))))))),true,[(0,5),(5,1),(6,1),(7,1)],none,160,false,none,none,2,[]⟩),
 (42,⟨(.sl (.sl (.sl (.int .i64)))),false,[],(some 24),24,false,none,none,3,[]⟩),
 (52,⟨(.pair (.int .i64) (.pair (.sl (.int .i64)) (.pair (.sl (.int .i64)) (.pair (.sl (.int .i64)) (.pair (.sl (.sl (.int .i64))) (.pair (.sl (.int .i64)) (.sl (.sl (.int .i64))))))))),true,[(0,5),(5,1),(6,1)],none,152,false,none,none,2,[]⟩),
 (53,⟨(.pair (.int .i64) (.pair (.sl (.int .i64)) (.pair (.sl (.int .i64)) (.pair (.sl (.int .i64)) (.pair (.sl (.sl (.int .i64))) (.pair (.sl (.int .i64)) (.sl (.sl (.int .i64))))))))),true,[(0,5),(5,1),(6,1)],none,152,false,none,none,2,[]⟩),
 (63,⟨(.ptr (.pair (.sl (.int .u8)) (.pair (.int .i64) (.int .u64)))),false,[],none,8,false,none,none,2,[]⟩),
 (77,⟨(.ptr (.pair (.int .i64) (.pair (.sl (.int .i64)) (.pair (.sl (.int .i64)) (.pair (.sl (.int .i64)) (.sl (.sl (.int .i64)))))))),false,[],none,8,false,none,none,3,[]⟩),
 (90,⟨(.ptr (.pair (.int .i64) (.pair (.sl (.int .i64)) (.pair (.sl (.int .i64)) (.pair (.sl (.int .i64)) (.pair (.sl (.sl (.int .i64))) (.pair (.int .i64) (.pair (.sl (.sl (.int .i64))) (.sl (.sl (.int .i64))))))))))),false,[],none,8,false,none,none,3,[]⟩),
 (99,⟨(.sl (.int .i64)),false,[],(some 2),24,false,none,none,1,[]⟩),
 (103,⟨(.sl (.int .i64)),false,[],(some 2),24,false,none,none,1,[]⟩),
 (111,⟨(.int .u64),false,[],none,8,false,(some .u64),none,0,[]⟩),
 (112,⟨(.pair (.sl (.int .u8)) (.pair (.int .i64) (.int .u64))),true,[(0,1),(1,1),(2,1)],none,40,false,none,none,1,[]⟩),
 (113,⟨(.pair (.sl (.int .u8)) (.pair (.int .i64) (.int .u64))),true,[(0,1),(1,1),(2,1)],none,40,false,none,none,1,[]⟩),
 (114,⟨(.int .u64),false,[],none,8,false,(some .u64),none,0,[]⟩),
 (115,⟨(.sl (.pair (.int .i64) (.int .i64))),false,[],(some 117),24,false,none,none,1,[]⟩),
 (116,⟨(.pair (.int .i64) (.int .i64)),true,[(0,1),(1,1)],none,16,false,none,(some [0,0]),0,[]⟩),
 (117,⟨(.pair (.int .i64) (.int .i64)),true,[(0,1),(1,1)],none,16,false,none,(some [0,0]),0,[]⟩),
 (122,⟨(.pair (.int .i64) (.int .i64)),true,[(0,1),(1,1)],none,16,false,none,(some [0,0]),0,[]⟩),
 (123,⟨(.pair (.int .i64) (.int .i64)),true,[(0,1),(1,1)],none,16,false,none,(some [0,0]),0,[]⟩),
 (132,⟨(.ptr (.pair (.int .i64) (.pair (.sl (.int .i64)) (.pair (.sl (.int .i64)) (.pair (.sl (.int .i64)) (.pair (.sl (.sl (.int .i64))) (.pair (.sl (.int .i64)) (.sl (.sl (.int .i64)))))))))),false,[],none,8,false,none,none,3,[]⟩),
 (140,⟨(.sl (.bool)),false,[],(some 4),24,false,none,none,1,[]⟩),
 (155,⟨(.sl (.pair (.int .i64) (.pair (.int .i64) (.sl (.int .i64))))),false,[],(some 158),24,false,none,none,0,[]⟩),
 (157,⟨(.pair (.int .i64) (.pair (.int .i64) (.sl (.int .i64)))),true,[(0,1),(1,1),(2,1)],none,40,false,none,none,1,[]⟩),
 (158,⟨(.pair (.int .i64) (.pair (.int .i64) (.sl (.int .i64)))),true,[(0,1),(1,1),(2,1)],none,40,false,none,none,0,[]⟩),
 (167,⟨(.int .u32),false,[],none,4,false,(some .u32),none,0,[]⟩),
 (168,⟨(.int .u8),false,[],none,1,false,(some .u8),none,0,[]⟩),
 (169,⟨(.int .u8),false,[],none,1,false,(some .u8),none,0,[]⟩),
 (171,⟨(.ptr (.int .u8)),false,[],none,8,false,none,none,1,[]⟩),
 (172,⟨(.int .i32),false,[],none,4,false,(some .i32),none,0,[]⟩),
 (173,⟨(.int .i32),false,[],none,4,false,(some .i32),none,0,[]⟩)]
theorem AJ:Tab.OK Try.prog TB:=Tab.ok_of (by kernel_rfl)
theorem mixed:Try.prog.follows .mixedOrders=true:=by kernel_rfl
end Go.Ve

