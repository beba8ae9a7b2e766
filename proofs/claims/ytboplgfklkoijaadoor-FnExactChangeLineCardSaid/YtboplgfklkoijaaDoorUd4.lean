/- The program's types. -/
import Derived.Test.YtboplgfklkoijaaDoorProg
import Derived.Test.YtboplgfklkoijaaDoorTv
namespace Go.Ve
open Go.Proofs
def TB : Tab := [
  (2, ⟨(.int .i64), false, [], none, 8, false, (some .i64), none, 0⟩),
  (3, ⟨(.int .i64), false, [], none, 8, false, (some .i64), none, 0⟩),
  (4, ⟨(.bool), false, [], none, 1, false, none, (some [9]), 0⟩),
  (5, ⟨(.int .u8), false, [], none, 1, false, (some .u8), none, 0⟩),
  (6, ⟨(.int .u8), false, [], none, 1, false, (some .u8), none, 0⟩),
  (7, ⟨(.pair (.int .i64) (.pair (.int .i64) (.pair (.bool) (.int .u8)))), true, [(0, 1), (1, 1), (2, 1), (3, 1)], none, 24, false, none, (some [0, 0, 1, 0]), 0⟩),
  (8, ⟨(.pair (.int .i64) (.pair (.int .i64) (.pair (.bool) (.int .u8)))), true, [(0, 1), (1, 1), (2, 1), (3, 1)], none, 24, false, none, (some [0, 0, 1, 0]), 0⟩),
  (9, ⟨(.str), false, [], none, 16, true, none, none, 0⟩),
  (10, ⟨(.str), false, [], none, 16, true, none, none, 0⟩),
  (11, ⟨(.str), false, [], none, 16, true, none, none, 0⟩),
  (12, ⟨(.int .u64), false, [], none, 8, false, (some .u64), none, 0⟩),
  (13, ⟨(.pair (.str) (.int .u64)), true, [(0, 1), (1, 1)], none, 24, false, none, none, 0⟩),
  (14, ⟨(.pair (.str) (.int .u64)), true, [(0, 1), (1, 1)], none, 24, false, none, none, 0⟩),
  (21, ⟨(.int .i32), false, [], none, 4, false, (some .i32), none, 0⟩),
  (22, ⟨(.pair (.int .i64) (.pair (.int .i64) (.pair (.int .i64) (.int .i64)))), true, [(0, 1), (1, 1), (2, 1), (3, 1)], none, 32, false, none, (some [0, 0, 0, 0]), 0⟩),
  (23, ⟨(.pair (.int .i64) (.pair (.int .i64) (.pair (.int .i64) (.int .i64)))), true, [(0, 1), (1, 1), (2, 1), (3, 1)], none, 32, false, none, (some [0, 0, 0, 0]), 0⟩),
  (26, ⟨(.pair (.int .i64) (.pair (.int .i64) (.pair (.int .i64) (.int .i64)))), true, [(0, 1), (1, 1), (2, 1), (3, 1)], none, 32, false, none, (some [0, 0, 0, 0]), 0⟩),
  (30, ⟨(.sl (.int .i64)), false, [], (some 2), 24, false, none, none, 1⟩),
  (38, ⟨(.sl (.int .u8)), false, [], (some 5), 24, false, none, none, 1⟩),
  (41, ⟨(.int .u64), false, [], none, 8, false, (some .u64), none, 0⟩),
  (49, ⟨(.int .u32), false, [], none, 4, false, (some .u32), none, 0⟩),
  (52, ⟨(.int .u64), false, [], none, 8, false, (some .u64), none, 0⟩),
  (63, ⟨(.int .u8), false, [], none, 1, false, (some .u8), none, 0⟩),
  (64, ⟨(.int .u8), false, [], none, 1, false, (some .u8), none, 0⟩),
  (66, ⟨(.ptr (.int .u8)), false, [], none, 8, false, none, none, 1⟩),
  (67, ⟨(.int .i32), false, [], none, 4, false, (some .i32), none, 0⟩),
  (68, ⟨(.int .i32), false, [], none, 4, false, (some .i32), none, 0⟩)]

theorem tb_ok : Tab.OK Tryd.prog TB := Tab.ok_of (by kernel_rfl)
theorem mixed : Tryd.prog.follows .mixedOrders = true := by kernel_rfl
end Go.Ve

