/- The program's types. -/
import Derived.Test.YtcdekmccongjgaaDoorProg
import Derived.Test.YtcdekmccongjgaaDoorTv
namespace Go.Ve
open Go.Proofs
def TB : Tab := [
  (2, ⟨(.int .i64), false, [], none, 8, false, (some .i64), none⟩),
  (3, ⟨(.int .i64), false, [], none, 8, false, (some .i64), none⟩),
  (4, ⟨(.bool), false, [], none, 1, false, none, (some [9])⟩),
  (5, ⟨(.int .u8), false, [], none, 1, false, (some .u8), none⟩),
  (6, ⟨(.int .u8), false, [], none, 1, false, (some .u8), none⟩),
  (7, ⟨(.pair (.int .i64) (.pair (.int .i64) (.pair (.bool) (.int .u8)))), true, [(0, 1), (1, 1), (2, 1), (3, 1)], none, 24, false, none, (some [0, 0, 1, 0])⟩),
  (8, ⟨(.pair (.int .i64) (.pair (.int .i64) (.pair (.bool) (.int .u8)))), true, [(0, 1), (1, 1), (2, 1), (3, 1)], none, 24, false, none, (some [0, 0, 1, 0])⟩),
  (9, ⟨(.str), false, [], none, 16, true, none, none⟩),
  (10, ⟨(.str), false, [], none, 16, true, none, none⟩),
  (11, ⟨(.str), false, [], none, 16, true, none, none⟩),
  (12, ⟨(.int .u64), false, [], none, 8, false, (some .u64), none⟩),
  (13, ⟨(.pair (.str) (.int .u64)), true, [(0, 1), (1, 1)], none, 24, false, none, none⟩),
  (14, ⟨(.pair (.str) (.int .u64)), true, [(0, 1), (1, 1)], none, 24, false, none, none⟩),
  (21, ⟨(.int .i32), false, [], none, 4, false, (some .i32), none⟩),
  (22, ⟨(.sl (.pair (.int .i64) (.pair (.sl (.int .i64)) (.pair (.sl (.int .i64)) (.pair (.sl (.str)) (.pair (.str) (.pair (.int .i64) (.str)))))))), false, [], (some 52), 24, false, none, none⟩),
  (26, ⟨(.sl (.pair (.int .i64) (.pair (.sl (.int .i64)) (.pair (.sl (.int .i64)) (.pair (.sl (.str)) (.pair (.str) (.pair (.int .i64) (.str)))))))), false, [], (some 54), 24, false, none, none⟩),
  (30, ⟨(.sl (.int .i64)), false, [], (some 2), 24, false, none, none⟩),
  (31, ⟨(.sl (.sl (.int .i64))), false, [], (some 30), 24, false, none, none⟩),
  (32, ⟨(.pair (.int .i64) (.pair (.sl (.int .i64)) (.pair (.sl (.int .i64)) (.pair (.sl (.int .i64)) (.sl (.sl (.int .i64))))))), true, [(0, 1), (1, 1), (2, 1), (3, 1), (4, 1)], none, 104, false, none, none⟩),
  (33, ⟨(.pair (.int .i64) (.pair (.sl (.int .i64)) (.pair (.sl (.int .i64)) (.pair (.sl (.int .i64)) (.sl (.sl (.int .i64))))))), true, [(0, 1), (1, 1), (2, 1), (3, 1), (4, 1)], none, 104, false, none, none⟩),
  (34, ⟨(.sl (.pair (.int .i64) (.int .i64))), false, [], (some 93), 24, false, none, none⟩),
  (35, ⟨(.pair (.sl (.int .i64)) (.pair (.sl (.pair (.int .i64) (.int .i64))) (.pair (.sl (.pair (.int .i64) (.int .i64))) (.sl (.int .i64))))), true, [(0, 1), (1, 1), (2, 1), (3, 1)], none, 96, false, none, none⟩),
  (36, ⟨(.pair (.sl (.int .i64)) (.pair (.sl (.pair (.int .i64) (.int .i64))) (.pair (.sl (.pair (.int .i64) (.int .i64))) (.sl (.int .i64))))), true, [(0, 1), (1, 1), (2, 1), (3, 1)], none, 96, false, none, none⟩),
  (40, ⟨(.pair (.int .i64) (.pair (.sl (.int .i64)) (.pair (.sl (.int .i64)) (.pair (.sl (.int .i64)) (.sl (.sl (.int .i64))))))), true, [(0, 1), (1, 1), (2, 1), (3, 1), (4, 1)], none, 104, false, none, none⟩),
  (42, ⟨(.sl (.pair (.int .i64) (.int .i64))), false, [], (some 91), 24, false, none, none⟩),
  (43, ⟨(.pair (.sl (.int .i64)) (.pair (.sl (.pair (.int .i64) (.int .i64))) (.pair (.sl (.pair (.int .i64) (.int .i64))) (.sl (.int .i64))))), true, [(0, 1), (1, 1), (2, 1), (3, 1)], none, 96, false, none, none⟩),
  (44, ⟨(.pair (.sl (.int .i64)) (.pair (.sl (.pair (.int .i64) (.int .i64))) (.pair (.sl (.pair (.int .i64) (.int .i64))) (.sl (.int .i64))))), true, [(0, 1), (1, 1), (2, 1), (3, 1)], none, 96, false, none, none⟩),
  (50, ⟨(.sl (.str)), false, [], (some 9), 24, false, none, none⟩),
  (51, ⟨(.pair (.int .i64) (.pair (.sl (.int .i64)) (.pair (.sl (.int .i64)) (.pair (.sl (.str)) (.pair (.str) (.pair (.int .i64) (.str))))))), true, [(0, 1), (1, 1), (2, 1), (3, 1), (4, 1), (5, 1), (6, 1)], none, 120, false, none, none⟩),
  (52, ⟨(.pair (.int .i64) (.pair (.sl (.int .i64)) (.pair (.sl (.int .i64)) (.pair (.sl (.str)) (.pair (.str) (.pair (.int .i64) (.str))))))), true, [(0, 1), (1, 1), (2, 1), (3, 1), (4, 1), (5, 1), (6, 1)], none, 120, false, none, none⟩),
  (54, ⟨(.pair (.int .i64) (.pair (.sl (.int .i64)) (.pair (.sl (.int .i64)) (.pair (.sl (.str)) (.pair (.str) (.pair (.int .i64) (.str))))))), true, [(0, 1), (1, 1), (2, 1), (3, 1), (4, 1), (5, 1), (6, 1)], none, 120, false, none, none⟩),
  (69, ⟨(.ptr (.pair (.int .i64) (.pair (.sl (.int .i64)) (.pair (.sl (.int .i64)) (.pair (.sl (.int .i64)) (.sl (.sl (.int .i64)))))))), false, [], none, 8, false, none, none⟩),
  (70, ⟨(.ptr (.pair (.sl (.int .i64)) (.pair (.sl (.pair (.int .i64) (.int .i64))) (.pair (.sl (.pair (.int .i64) (.int .i64))) (.sl (.int .i64)))))), false, [], none, 8, false, none, none⟩),
  (81, ⟨(.ptr (.pair (.int .i64) (.pair (.sl (.int .i64)) (.pair (.sl (.int .i64)) (.pair (.sl (.str)) (.pair (.str) (.pair (.int .i64) (.str)))))))), false, [], none, 8, false, none, none⟩),
  (90, ⟨(.pair (.int .i64) (.int .i64)), true, [(0, 1), (1, 1)], none, 16, false, none, (some [0, 0])⟩),
  (91, ⟨(.pair (.int .i64) (.int .i64)), true, [(0, 1), (1, 1)], none, 16, false, none, (some [0, 0])⟩),
  (93, ⟨(.pair (.int .i64) (.int .i64)), true, [(0, 1), (1, 1)], none, 16, false, none, (some [0, 0])⟩),
  (94, ⟨(.sl (.ptr (.pair (.sl (.int .i64)) (.pair (.sl (.pair (.int .i64) (.int .i64))) (.pair (.sl (.pair (.int .i64) (.int .i64))) (.sl (.int .i64))))))), false, [], (some 70), 24, false, none, none⟩),
  (98, ⟨(.sl (.int .u8)), false, [], (some 5), 24, false, none, none⟩),
  (123, ⟨(.int .u64), false, [], none, 8, false, (some .u64), none⟩),
  (128, ⟨(.ptr (.int .u8)), false, [], none, 8, false, none, none⟩),
  (131, ⟨(.pair (.int .i64) (.int .i64)), true, [(0, 1), (1, 1)], none, 16, false, none, (some [0, 0])⟩),
  (132, ⟨(.pair (.int .i64) (.int .i64)), true, [(0, 1), (1, 1)], none, 16, false, none, (some [0, 0])⟩),
  (139, ⟨(.int .u64), false, [], none, 8, false, (some .u64), none⟩),
  (143, ⟨(.int .u32), false, [], none, 4, false, (some .u32), none⟩),
  (158, ⟨(.int .u8), false, [], none, 1, false, (some .u8), none⟩),
  (159, ⟨(.int .u8), false, [], none, 1, false, (some .u8), none⟩),
  (161, ⟨(.int .i32), false, [], none, 4, false, (some .i32), none⟩),
  (162, ⟨(.int .i32), false, [], none, 4, false, (some .i32), none⟩)]

theorem tb_ok : Tab.OK Tryd.prog TB := Tab.ok_of (by kernel_rfl)
theorem mixed : Tryd.prog.follows .mixedOrders = true := by kernel_rfl
end Go.Ve

