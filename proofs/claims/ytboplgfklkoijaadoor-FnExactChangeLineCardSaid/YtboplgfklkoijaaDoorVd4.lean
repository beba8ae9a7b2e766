/- Contracts of library functions at this program (off the shelf): FormatInt with its table. -/
import Derived.Test.YtboplgfklkoijaaDoorUd4
import Derived.Shelf.Strconv.Itoa3
namespace Go.Proofs
open Go.Shelf
def Tryd.lays246_ren : Go.Shelf.Ren := ⟨fun | 246 => 15 | 283 => 16 | 284 => 17 | 285 => 18 | 286 => 19 | 129 => 21 | 317 => 20 | 318 => 22 | 319 => 23 | 320 => 24 | 337 => 25 | 338 => 26 | n => n, fun | 2 => 2 | 3 => 3 | 9 => 9 | 4 => 4 | 171 => 40 | 0 => 0 | 53 => 41 | 37 => 38 | 5 => 5 | 173 => 44 | 212 => 48 | 51 => 49 | 20 => 20 | 213 => 50 | 46 => 52 | 232 => 55 | 233 => 56 | n => n, fun | 17 => 0 | 18 => 1 | 19 => 2 | n => n⟩
theorem Tryd.lays246 : Go.Proofs.LaysM.n246 Tryd.prog Tryd.lays246_ren := {
  mixed := by kernel_rfl
  f129 := Tryd.func21.trans (congrArg some (by kernel_rfl))
  f246 := Tryd.func15.trans (congrArg some (by kernel_rfl))
  f283 := Tryd.func16.trans (congrArg some (by kernel_rfl))
  f284 := Tryd.func17.trans (congrArg some (by kernel_rfl))
  f285 := Tryd.func18.trans (congrArg some (by kernel_rfl))
  f286 := Tryd.func19.trans (congrArg some (by kernel_rfl))
  f317 := Tryd.func20.trans (congrArg some (by kernel_rfl))
  f318 := Tryd.func22.trans (congrArg some (by kernel_rfl))
  f319 := Tryd.func23.trans (congrArg some (by kernel_rfl))
  f320 := Tryd.func24.trans (congrArg some (by kernel_rfl))
  f337 := Tryd.func25.trans (congrArg some (by kernel_rfl))
  f338 := Tryd.func26.trans (congrArg some (by kernel_rfl))
  t0 := Tryd.underlying0
  a0 := Tryd.isAgg0
  z0 := Tryd.sizeOf0
  v0 := Tryd.zeroValue0
  t2 := Tryd.underlying2
  a2 := Tryd.isAgg2
  z2 := Tryd.sizeOf2
  v2 := Tryd.zeroValue2
  t3 := Tryd.underlying3
  a3 := Tryd.isAgg3
  z3 := Tryd.sizeOf3
  v3 := Tryd.zeroValue3
  t4 := Tryd.underlying4
  a4 := Tryd.isAgg4
  z4 := Tryd.sizeOf4
  v4 := Tryd.zeroValue4
  t5 := Tryd.underlying5
  a5 := Tryd.isAgg5
  z5 := Tryd.sizeOf5
  v5 := Tryd.zeroValue5
  t9 := Tryd.underlying9
  a9 := Tryd.isAgg9
  z9 := Tryd.sizeOf9
  v9 := Tryd.zeroValue9
  t20 := Tryd.underlying20
  a20 := Tryd.isAgg20
  z20 := Tryd.sizeOf20
  v20 := Tryd.zeroValue20
  t37 := Tryd.underlying38
  a37 := Tryd.isAgg38
  z37 := Tryd.sizeOf38
  v37 := Tryd.zeroValue38
  t46 := Tryd.underlying52
  a46 := Tryd.isAgg52
  z46 := Tryd.sizeOf52
  v46 := Tryd.zeroValue52
  t51 := Tryd.underlying49
  a51 := Tryd.isAgg49
  z51 := Tryd.sizeOf49
  v51 := Tryd.zeroValue49
  t53 := Tryd.underlying41
  a53 := Tryd.isAgg41
  z53 := Tryd.sizeOf41
  v53 := Tryd.zeroValue41
  t171 := Tryd.underlying40
  a171 := Tryd.isAgg40
  z171 := Tryd.sizeOf40
  v171 := Tryd.zeroValue40
  t173 := Tryd.underlying44
  a173 := Tryd.isAgg44
  z173 := Tryd.sizeOf44
  v173 := Tryd.zeroValue44
  t212 := Tryd.underlying48
  a212 := Tryd.isAgg48
  z212 := Tryd.sizeOf48
  v212 := Tryd.zeroValue48
  t213 := Tryd.underlying50
  a213 := Tryd.isAgg50
  z213 := Tryd.sizeOf50
  t232 := Tryd.underlying55
  a232 := Tryd.isAgg55
  z232 := Tryd.sizeOf55
  v232 := Tryd.zeroValue55
  t233 := Tryd.underlying56
  a233 := Tryd.isAgg56
  z233 := Tryd.sizeOf56
  v233 := Tryd.zeroValue56
  g17 := by kernel_rfl
  g18 := by kernel_rfl
  g19 := by kernel_rfl
  i0 := by kernel_rfl
  i2 := by kernel_rfl
  i3 := by kernel_rfl
  i4 := by kernel_rfl
  i5 := by kernel_rfl
  i9 := by kernel_rfl
  i20 := by kernel_rfl
  i37 := by kernel_rfl
  i46 := by kernel_rfl
  i51 := by kernel_rfl
  i53 := by kernel_rfl
  i171 := by kernel_rfl
  i173 := by kernel_rfl
  i212 := by kernel_rfl
  i232 := by kernel_rfl
  i233 := by kernel_rfl
  m17 := by kernel_rfl
  m18 := by kernel_rfl
  m19 := by kernel_rfl }
end Go.Proofs
namespace Go.Ve.D
open Go Go.Ve Go.Proofs Go.RowKit
set_option maxRecDepth 100000

theorem args2 {cvs : Array Value} (h : cvs.size = 2) : cvs = #[cvs.getD 0 undef, cvs.getD 1 undef] := by
  apply Array.ext
  · simpa using h
  · intro i h1 h2
    have h3 : i = 0 ∨ i = 1 := by omega
    rcases h3 with rfl | rfl <;> simp [h]
theorem tab_here {w : World} (h : Wok w) : Lib.TabIs Tryd.prog w "internal/strconv.uint64pow10" .u64 Lib.pow10Tab := by
  obtain ⟨T, fz, hb⟩ := h _ rfl
  unfold Lib.TabIs World.var?
  rw [show Tryd.prog.globalNamed "internal/strconv.uint64pow10" = some 0 by kernel_rfl]
  simp only [Option.bind_some, hb]
/-- internal/strconv.FormatInt at base 10 -/
def S15 : Sig := ⟨[(false, (.int .i64)), (false, (.int .i64))], [(false, 0, .str)]⟩
def G15 (x : Int × Int) : Option ByteArray := if -9223372036854775808 ≤ x.1 ∧ x.1 ≤ 9223372036854775807 ∧ x.2 = 10 then some ⟨(Lib.itoa x.1).toArray⟩ else none
theorem c15 : FT Tryd.prog 15 S15 G15 := by
  rintro ⟨n, b⟩ y h
  unfold G15 at h
  split at h
  case isFalse => cases h
  rename_i hc
  obtain ⟨h0, h1, h2⟩ := hc
  cases h
  intro w D cvs hk hD hsz hr
  have r0 : Rel D w noR (.c (.int .i64 n)) (cvs.getD 0 undef) noF := hr 0 (Nat.zero_lt_succ 1)
  have r1 : Rel D w noR (.c (.int .i64 b)) (cvs.getD 1 undef) noF := hr 1 (Nat.lt_succ_self 1)
  rw [args2 hsz, r0.1, r1.1, show @Eq Int b 10 from h2]
  refine (Any.internal_strconv_FormatInt_10 Tryd.lays246 n h0 h1 w (tab_here hk)).mono fun e w' h => ?_
  obtain ⟨rfl, k, os, rfl⟩ := h
  have hd : (w.drewN k).heap = w.heap := rfl
  have hB : Below w.heap.size w (Sort.grow (w.drewN k) os) := ⟨rfl, rfl, rfl, by show _ ≤ ((w.drewN k).heap ++ os).size; rw [hd]; simp, fun i hi => by
    show ((w.drewN k).heap ++ os)[i]? = _
    rw [hd, Array.getElem?_append_left hi]⟩
  exact ⟨_, noF, D, rfl, hB, ⟨rfl, rfl, fun _ h => h⟩, fun _ h => h.elim, fun _ h => h, fun _ h => .inl h, fun b h => ⟨Nat.lt_of_lt_of_le (hD b h) hB.size, fun h => h⟩⟩
theorem a15 : callable Tryd.prog 15 = true := by kernel_rfl
end Go.Ve.D

