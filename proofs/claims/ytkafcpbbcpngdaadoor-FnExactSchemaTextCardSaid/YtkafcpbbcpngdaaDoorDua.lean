/- The program's types. -/
import Derived.Test.YtkafcpbbcpngdaaDoorProg
import Derived.Test.YtkafcpbbcpngdaaDoorTv
namespace Go.Ve
open Go.Proofs
def TB : Tab := [
  (2, ⟨(.int .i64), false, [], none, 8, false, (some .i64), none⟩),
  (3, ⟨(.int .i64), false, [], none, 8, false, (some .i64), none⟩),
  (4, ⟨(.bool), false, [], none, 1, false, none, (some [9])⟩),
  (5, ⟨(.int .u8), false, [], none, 1, false, (some .u8), none⟩),
  (6, ⟨(.int .u8), false, [], none, 1, false, (some .u8), none⟩),
  (7, ⟨(.pair (.int .i64) (.pair (.int .i64) (.pair (.bool) (.int .u8)))), true, [(0, 1), (1, 1), (2, 1), (3, 1)], none, 24, false, none, (some [0, 0, 1, 0])⟩),
  (8, ⟨(.pair (.int .i64) (.pair (.int .i64) (.pair (.bool) (.int .u8)))), true, [(0, 1), (1, 1), (2, 1), (3, 1)], none, 24, false, none, (some [0, 0, 1, 0])⟩),
  (9, ⟨(.str), false, [], none, 16, true, none, none⟩),
  (10, ⟨(.str), false, [], none, 16, true, none, none⟩),
  (11, ⟨(.str), false, [], none, 16, true, none, none⟩),
  (12, ⟨(.int .u64), false, [], none, 8, false, (some .u64), none⟩),
  (13, ⟨(.pair (.str) (.int .u64)), true, [(0, 1), (1, 1)], none, 24, false, none, none⟩),
  (14, ⟨(.pair (.str) (.int .u64)), true, [(0, 1), (1, 1)], none, 24, false, none, none⟩),
  (21, ⟨(.int .i32), false, [], none, 4, false, (some .i32), none⟩),
  (22, ⟨(.pair (.int .i64) (.pair (.int .i64) (.pair (.int .i64) (.int .i64)))), true, [(0, 1), (1, 1), (2, 1), (3, 1)], none, 32, false, none, (some [0, 0, 0, 0])⟩),
  (23, ⟨(.pair (.int .i64) (.pair (.int .i64) (.pair (.int .i64) (.int .i64)))), true, [(0, 1), (1, 1), (2, 1), (3, 1)], none, 32, false, none, (some [0, 0, 0, 0])⟩),
  (26, ⟨(.pair (.int .i64) (.pair (.int .i64) (.pair (.int .i64) (.int .i64)))), true, [(0, 1), (1, 1), (2, 1), (3, 1)], none, 32, false, none, (some [0, 0, 0, 0])⟩),
  (29, ⟨(.sl (.int .i64)), false, [], (some 2), 24, false, none, none⟩),
  (30, ⟨(.sl (.pair (.int .i64) (.sl (.int .i64)))), false, [], (some 34), 24, false, none, none⟩),
  (31, ⟨(.pair (.int .i64) (.pair (.sl (.int .i64)) (.pair (.sl (.int .i64)) (.pair (.sl (.pair (.int .i64) (.sl (.int .i64)))) (.sl (.pair (.int .i64) (.sl (.int .i64)))))))), true, [(0, 1), (1, 1), (2, 1), (3, 1), (4, 1)], none, 104, false, none, none⟩),
  (32, ⟨(.pair (.int .i64) (.pair (.sl (.int .i64)) (.pair (.sl (.int .i64)) (.pair (.sl (.pair (.int .i64) (.sl (.int .i64)))) (.sl (.pair (.int .i64) (.sl (.int .i64)))))))), true, [(0, 1), (1, 1), (2, 1), (3, 1), (4, 1)], none, 104, false, none, none⟩),
  (33, ⟨(.pair (.int .i64) (.sl (.int .i64))), true, [(0, 1), (1, 1)], none, 32, false, none, none⟩),
  (34, ⟨(.pair (.int .i64) (.sl (.int .i64))), true, [(0, 1), (1, 1)], none, 32, false, none, none⟩),
  (38, ⟨(.sl (.pair (.int .i64) (.sl (.int .i64)))), false, [], (some 42), 24, false, none, none⟩),
  (39, ⟨(.pair (.int .i64) (.pair (.sl (.int .i64)) (.pair (.sl (.int .i64)) (.pair (.sl (.pair (.int .i64) (.sl (.int .i64)))) (.sl (.pair (.int .i64) (.sl (.int .i64)))))))), true, [(0, 1), (1, 1), (2, 1), (3, 1), (4, 1)], none, 104, false, none, none⟩),
  (40, ⟨(.pair (.int .i64) (.pair (.sl (.int .i64)) (.pair (.sl (.int .i64)) (.pair (.sl (.pair (.int .i64) (.sl (.int .i64)))) (.sl (.pair (.int .i64) (.sl (.int .i64)))))))), true, [(0, 1), (1, 1), (2, 1), (3, 1), (4, 1)], none, 104, false, none, none⟩),
  (42, ⟨(.pair (.int .i64) (.sl (.int .i64))), true, [(0, 1), (1, 1)], none, 32, false, none, none⟩),
  (49, ⟨(.sl (.sl (.int .i64))), false, [], (some 29), 24, false, none, none⟩),
  (50, ⟨(.pair (.int .i64) (.pair (.sl (.int .i64)) (.pair (.sl (.int .i64)) (.pair (.sl (.int .i64)) (.sl (.sl (.int .i64))))))), true, [(0, 1), (1, 1), (2, 1), (3, 1), (4, 1)], none, 104, false, none, none⟩),
  (51, ⟨(.pair (.int .i64) (.pair (.sl (.int .i64)) (.pair (.sl (.int .i64)) (.pair (.sl (.int .i64)) (.sl (.sl (.int .i64))))))), true, [(0, 1), (1, 1), (2, 1), (3, 1), (4, 1)], none, 104, false, none, none⟩),
  (54, ⟨(.pair (.int .i64) (.pair (.sl (.int .i64)) (.pair (.sl (.int .i64)) (.pair (.sl (.int .i64)) (.sl (.sl (.int .i64))))))), true, [(0, 1), (1, 1), (2, 1), (3, 1), (4, 1)], none, 104, false, none, none⟩),
  (82, ⟨(.ptr (.pair (.int .i64) (.pair (.sl (.int .i64)) (.pair (.sl (.int .i64)) (.pair (.sl (.pair (.int .i64) (.sl (.int .i64)))) (.sl (.pair (.int .i64) (.sl (.int .i64))))))))), false, [], none, 8, false, none, none⟩),
  (85, ⟨(.sl (.int .u8)), false, [], (some 5), 24, false, none, none⟩),
  (87, ⟨(.sl (.str)), false, [], (some 9), 24, false, none, none⟩),
  (94, ⟨(.ptr (.pair (.int .i64) (.pair (.sl (.int .i64)) (.pair (.sl (.int .i64)) (.pair (.sl (.int .i64)) (.sl (.sl (.int .i64)))))))), false, [], none, 8, false, none, none⟩),
  (109, ⟨(.pair (.int .i64) (.int .i64)), true, [(0, 1), (1, 1)], none, 16, false, none, (some [0, 0])⟩),
  (110, ⟨(.pair (.int .i64) (.int .i64)), true, [(0, 1), (1, 1)], none, 16, false, none, (some [0, 0])⟩),
  (114, ⟨(.int .u64), false, [], none, 8, false, (some .u64), none⟩),
  (119, ⟨(.ptr (.int .u8)), false, [], none, 8, false, none, none⟩),
  (123, ⟨(.int .u32), false, [], none, 4, false, (some .u32), none⟩),
  (126, ⟨(.int .u64), false, [], none, 8, false, (some .u64), none⟩),
  (140, ⟨(.int .u8), false, [], none, 1, false, (some .u8), none⟩),
  (141, ⟨(.int .u8), false, [], none, 1, false, (some .u8), none⟩),
  (143, ⟨(.int .i32), false, [], none, 4, false, (some .i32), none⟩),
  (144, ⟨(.int .i32), false, [], none, 4, false, (some .i32), none⟩)]

theorem tb_ok : Tab.OK Tryd.prog TB := Tab.ok_of (by kernel_rfl)
theorem mixed : Tryd.prog.follows .mixedOrders = true := by kernel_rfl
end Go.Ve

