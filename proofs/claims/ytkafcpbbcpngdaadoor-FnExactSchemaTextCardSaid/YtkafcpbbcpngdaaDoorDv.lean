/- Contracts of library functions at this program (off the shelf), and l01Dec. -/
import Derived.Test.YtkafcpbbcpngdaaDoorDua
import Derived.Shelf.Strconv.Itoa3
import Derived.Shelf.Strings.OnBuilder
namespace Go.Proofs
open Go.Shelf Go.RowKit
def Tryd.lays246_ren : Go.Shelf.Ren := ⟨fun | 246 => 70 | 283 => 80 | 284 => 81 | 285 => 82 | 286 => 83 | 129 => 87 | 317 => 86 | 318 => 88 | 319 => 89 | 320 => 90 | 337 => 93 | 338 => 94 | n => n, fun | 2 => 2 | 3 => 3 | 9 => 9 | 4 => 4 | 171 => 113 | 0 => 0 | 53 => 114 | 37 => 85 | 5 => 5 | 173 => 117 | 212 => 122 | 51 => 123 | 20 => 20 | 213 => 124 | 46 => 126 | 232 => 132 | 233 => 133 | n => n, fun | 17 => 0 | 18 => 2 | 19 => 3 | n => n⟩
theorem Tryd.lays246 : Go.Proofs.Lays.n246 Tryd.prog Tryd.lays246_ren := {
  mixed := by kernel_rfl
  f129 := Tryd.func87.trans (congrArg some (by kernel_rfl))
  f246 := Tryd.func70.trans (congrArg some (by kernel_rfl))
  f283 := Tryd.func80.trans (congrArg some (by kernel_rfl))
  f284 := Tryd.func81.trans (congrArg some (by kernel_rfl))
  f285 := Tryd.func82.trans (congrArg some (by kernel_rfl))
  f286 := Tryd.func83.trans (congrArg some (by kernel_rfl))
  f317 := Tryd.func86.trans (congrArg some (by kernel_rfl))
  f318 := Tryd.func88.trans (congrArg some (by kernel_rfl))
  f319 := Tryd.func89.trans (congrArg some (by kernel_rfl))
  f320 := Tryd.func90.trans (congrArg some (by kernel_rfl))
  f337 := Tryd.func93.trans (congrArg some (by kernel_rfl))
  f338 := Tryd.func94.trans (congrArg some (by kernel_rfl))
  t0 := Tryd.underlying0
  a0 := Tryd.isAgg0
  z0 := Tryd.sizeOf0
  v0 := Tryd.zeroValue0
  t2 := Tryd.underlying2
  a2 := Tryd.isAgg2
  z2 := Tryd.sizeOf2
  v2 := Tryd.zeroValue2
  t3 := Tryd.underlying3
  a3 := Tryd.isAgg3
  z3 := Tryd.sizeOf3
  v3 := Tryd.zeroValue3
  t4 := Tryd.underlying4
  a4 := Tryd.isAgg4
  z4 := Tryd.sizeOf4
  v4 := Tryd.zeroValue4
  t5 := Tryd.underlying5
  a5 := Tryd.isAgg5
  z5 := Tryd.sizeOf5
  v5 := Tryd.zeroValue5
  t9 := Tryd.underlying9
  a9 := Tryd.isAgg9
  z9 := Tryd.sizeOf9
  v9 := Tryd.zeroValue9
  t20 := Tryd.underlying20
  a20 := Tryd.isAgg20
  z20 := Tryd.sizeOf20
  v20 := Tryd.zeroValue20
  t37 := Tryd.underlying85
  a37 := Tryd.isAgg85
  z37 := Tryd.sizeOf85
  v37 := Tryd.zeroValue85
  t46 := Tryd.underlying126
  a46 := Tryd.isAgg126
  z46 := Tryd.sizeOf126
  v46 := Tryd.zeroValue126
  t51 := Tryd.underlying123
  a51 := Tryd.isAgg123
  z51 := Tryd.sizeOf123
  v51 := Tryd.zeroValue123
  t53 := Tryd.underlying114
  a53 := Tryd.isAgg114
  z53 := Tryd.sizeOf114
  v53 := Tryd.zeroValue114
  t171 := Tryd.underlying113
  a171 := Tryd.isAgg113
  z171 := Tryd.sizeOf113
  v171 := Tryd.zeroValue113
  t173 := Tryd.underlying117
  a173 := Tryd.isAgg117
  z173 := Tryd.sizeOf117
  v173 := Tryd.zeroValue117
  t212 := Tryd.underlying122
  a212 := Tryd.isAgg122
  z212 := Tryd.sizeOf122
  v212 := Tryd.zeroValue122
  t213 := Tryd.underlying124
  a213 := Tryd.isAgg124
  z213 := Tryd.sizeOf124
  t232 := Tryd.underlying132
  a232 := Tryd.isAgg132
  z232 := Tryd.sizeOf132
  v232 := Tryd.zeroValue132
  t233 := Tryd.underlying133
  a233 := Tryd.isAgg133
  z233 := Tryd.sizeOf133
  v233 := Tryd.zeroValue133
  g17 := by kernel_rfl
  g18 := by kernel_rfl
  g19 := by kernel_rfl }
def Tryd.lays156_ren : Go.Shelf.Ren := ⟨fun | 156 => 58 | 165 => 72 | 166 => 73 | 169 => 74 | 240 => 84 | 241 => 85 | 276 => 91 | 277 => 92 | n => n, fun | 31 => 87 | 9 => 9 | 3 => 3 | 4 => 4 | 0 => 0 | 20 => 20 | 72 => 101 | 76 => 105 | 70 => 99 | 37 => 85 | 75 => 104 | 127 => 119 | 164 => 128 | 5 => 5 | 80 => 62 | n => n, fun | n => n⟩
theorem Tryd.lays156 : Go.Proofs.Lays.n156 Tryd.prog Tryd.lays156_ren := {
  mixed := by kernel_rfl
  f156 := Tryd.func58.trans (congrArg some (by kernel_rfl))
  f165 := Tryd.func72.trans (congrArg some (by kernel_rfl))
  f166 := Tryd.func73.trans (congrArg some (by kernel_rfl))
  f169 := Tryd.func74.trans (congrArg some (by kernel_rfl))
  f240 := Tryd.func84.trans (congrArg some (by kernel_rfl))
  f241 := Tryd.func85.trans (congrArg some (by kernel_rfl))
  f276 := Tryd.func91.trans (congrArg some (by kernel_rfl))
  f277 := Tryd.func92.trans (congrArg some (by kernel_rfl))
  t0 := Tryd.underlying0
  a0 := Tryd.isAgg0
  z0 := Tryd.sizeOf0
  v0 := Tryd.zeroValue0
  t3 := Tryd.underlying3
  a3 := Tryd.isAgg3
  z3 := Tryd.sizeOf3
  v3 := Tryd.zeroValue3
  t4 := Tryd.underlying4
  a4 := Tryd.isAgg4
  z4 := Tryd.sizeOf4
  v4 := Tryd.zeroValue4
  t9 := Tryd.underlying9
  a9 := Tryd.isAgg9
  z9 := Tryd.sizeOf9
  v9 := Tryd.zeroValue9
  t20 := Tryd.underlying20
  a20 := Tryd.isAgg20
  z20 := Tryd.sizeOf20
  v20 := Tryd.zeroValue20
  t31 := Tryd.underlying87
  a31 := Tryd.isAgg87
  z31 := Tryd.sizeOf87
  v31 := Tryd.zeroValue87
  t37 := Tryd.underlying85
  a37 := Tryd.isAgg85
  z37 := Tryd.sizeOf85
  v37 := Tryd.zeroValue85
  t70 := Tryd.underlying99
  a70 := Tryd.isAgg99
  z70 := Tryd.sizeOf99
  v70 := Tryd.zeroValue99
  t72 := Tryd.underlying101
  a72 := Tryd.isAgg101
  z72 := Tryd.sizeOf101
  v72 := Tryd.zeroValue101
  t75 := Tryd.underlying104
  a75 := Tryd.isAgg104
  z75 := Tryd.sizeOf104
  v75 := Tryd.zeroValue104
  t76 := Tryd.underlying105
  a76 := Tryd.isAgg105
  z76 := Tryd.sizeOf105
  v76 := Tryd.zeroValue105
  t127 := Tryd.underlying119
  a127 := Tryd.isAgg119
  z127 := Tryd.sizeOf119
  v127 := Tryd.zeroValue119
  t164 := Tryd.underlying128
  a164 := Tryd.isAgg128
  z164 := Tryd.sizeOf128
  v164 := Tryd.zeroValue128 }
theorem Tryd.builderX : Builder.Extra Tryd.prog Tryd.lays156_ren := {
  sizeBuilder := by kernel_rfl
  liesBuilder := by kernel_rfl
  t5 := Tryd.underlying5
  a5 := Tryd.isAgg5
  z5 := Tryd.sizeOf5
  v5 := Tryd.zeroValue5
  infoByte := by kernel_rfl
  cellsByte := by kernel_rfl
  sizeByte := by kernel_rfl
  neB5 := by decide }
theorem Tryd.fmtSmall (i : Nat) (hi : i < 100) (w : World) :
    Calls Tryd.prog 70 #[.int .i64 i, .int .i64 10] w fun e w' => e = .returned (.string ⟨(Lib.decDigits i).toArray⟩) ∧ w' = w := Any.internal_strconv_FormatInt_10_small Tryd.lays246 i hi w
theorem Tryd.joinNone (a : Option Addr) (c : Nat) (sep : ByteArray) (w : World) :
    Calls Tryd.prog 58 #[.slice a 0 c, .string sep] w fun e w' => e = .returned (.string ⟨#[]⟩) ∧ w' = w := Any.strings_Join_none Tryd.lays156 Tryd.builderX a c sep w
theorem Tryd.join (bk o c : Nat) (xs : List ByteArray) (sep : ByteArray) (w : World) (hcells : ∀ (j : Nat) x, xs[j]? = some x → w.cell? ⟨bk, o + j, none⟩ = some (.string x)) (hbk : bk < w.heap.size) (hN : xs.length ≤ 140737488355328) (hcap : xs.length ≤ c) (hlen : (Lib.join (xs.map (·.data.toList)) sep.data.toList).length ≤ 140737488355328) :
    Calls Tryd.prog 58 #[.slice (some ⟨bk, o, none⟩) xs.length c, .string sep] w fun e w' => e = .returned (.string ⟨(Lib.join (xs.map (·.data.toList)) sep.data.toList).toArray⟩) ∧ Below w.heap.size w w' := Any.strings_Join Tryd.lays156 Tryd.builderX bk o c xs sep w hcells hbk hN hcap hlen
end Go.Proofs
namespace Go.Ve.D
open Go Go.Ve Go.Proofs Go.RowKit
set_option maxRecDepth 100000

theorem args2 {cvs : Array Value} (h : cvs.size = 2) : cvs = #[cvs.getD 0 undef, cvs.getD 1 undef] := by
  apply Array.ext
  · simpa using h
  · intro i h1 h2
    have h3 : i = 0 ∨ i = 1 := by omega
    rcases h3 with rfl | rfl <;> simp [h]

/-- internal/strconv.FormatInt at base 10, below 100 -/
def S70 : Sig := ⟨[(false, (.int .i64)), (false, (.int .i64))], [(false, 0, .str)]⟩
def G70 (x : Int × Int) : Option ByteArray := if 0 ≤ x.1 ∧ x.1 < 100 ∧ x.2 = 10 then some ⟨(Lib.decDigits x.1.toNat).toArray⟩ else none
theorem c70 : FT Tryd.prog 70 S70 G70 := by
  rintro ⟨n, b⟩ y h
  unfold G70 at h
  split at h
  case isFalse => cases h
  rename_i hc
  obtain ⟨h0, h1, h2⟩ := hc
  cases h
  intro w D cvs hD hsz hr
  have r0 : Rel D w noR (.c (.int .i64 n)) (cvs.getD 0 undef) noF := hr 0 (Nat.zero_lt_succ 1)
  have r1 : Rel D w noR (.c (.int .i64 b)) (cvs.getD 1 undef) noF := hr 1 (Nat.lt_succ_self 1)
  rw [args2 hsz, r0.1, r1.1, show @Eq Int b 10 from h2, show @Eq Int n ((n.toNat : Nat) : Int) from (Int.toNat_of_nonneg h0).symm]
  refine (Tryd.fmtSmall (Int.toNat n) ((Int.toNat_lt h0).2 h1) w).mono fun e w' h => ?_
  obtain ⟨rfl, rfl⟩ := h
  exact ⟨_, noF, D, rfl, Below.refl _ _, ⟨rfl, rfl, fun _ h => h⟩, fun _ h => h.elim, fun _ h => h, fun _ h => .inl h, fun b h => ⟨hD b h, fun h => h⟩⟩
theorem a70 : callable Tryd.prog 70 = true := by kernel_rfl

/-- strings.Join -/
def S58 : Sig := ⟨[(false, (.sl .str)), (false, .str)], [(false, 0, .str)]⟩
def G58 (x : List ByteArray × ByteArray) : Option ByteArray := if x.1.length ≤ 140737488355328 ∧ (Lib.join (x.1.map (·.data.toList)) x.2.data.toList).length ≤ 140737488355328 then some ⟨(Lib.join (x.1.map (·.data.toList)) x.2.data.toList).toArray⟩ else none
theorem c58 : FT Tryd.prog 58 S58 G58 := by
  rintro ⟨xs, sep⟩ y h
  unfold G58 at h
  split at h
  case isFalse => cases h
  rename_i hc
  obtain ⟨h1, h2⟩ := hc
  cases h
  intro w D cvs hD hsz hr
  have r0 : Rel D w noR (.nd true false 1 xs.length fun i k => (tyV .str 0 (xs.getD i (Ty.dflt .str))).getD k .dead) (cvs.getD 0 undef) noF := hr 0 (Nat.zero_lt_succ 1)
  have r1 : Rel D w noR (.c (.string sep)) (cvs.getD 1 undef) noF := hr 1 (Nat.lt_succ_self 1)
  rw [args2 hsz, r1.1]
  rcases r0 with ⟨hn, _, hn0, _⟩ | ⟨b, o, cap, F, hcv, hcap, hmax, _, hcell, hi, _⟩
  · obtain ⟨a, ha⟩ := nilO_slice hn0
    cases xs with
    | cons _ _ => simp at hn
    | nil =>
      rw [ha]
      refine (Tryd.joinNone _ _ sep w).mono fun e w' h => ?_
      obtain ⟨rfl, rfl⟩ := h
      exact ⟨_, noF, D, rfl, Below.refl _ _, ⟨rfl, rfl, fun _ h => h⟩, fun _ h => h.elim, fun _ h => h, fun _ h => .inl h, fun b h => ⟨hD b h, fun h => h⟩⟩
  · rw [hcv]
    by_cases hx : xs.length = 0
    · cases xs with
      | cons _ _ => simp at hx
      | nil =>
        refine (Tryd.joinNone _ _ sep w).mono fun e w' h => ?_
        obtain ⟨rfl, rfl⟩ := h
        exact ⟨_, noF, D, rfl, Below.refl _ _, ⟨rfl, rfl, fun _ h => h⟩, fun _ h => h.elim, fun _ h => h, fun _ h => .inl h, fun b h => ⟨hD b h, fun h => h⟩⟩
    · obtain ⟨hDb, _, _⟩ := hi rfl
      have hbk : b < w.heap.size := hD b (hDb (by omega))
      refine (Tryd.join b o cap xs sep w (fun j x hj => ?_) hbk h1 hcap h2).mono fun e w' h => ?_
      · have hjl : j < xs.length := (List.getElem?_eq_some_iff.1 hj).1
        obtain ⟨v, hv, hrv⟩ := hcell j 0 hjl (by decide)
        have hv' : v = .string (xs.getD j (Ty.dflt .str)) := hrv.1
        rw [hv', List.getD_eq_getElem?_getD, hj, Option.getD_some] at hv
        simpa using hv
      · obtain ⟨rfl, hB⟩ := h
        exact ⟨_, noF, D, rfl, hB, ⟨rfl, rfl, fun _ h => h⟩, fun _ h => h.elim, fun _ h => h, fun _ h => .inl h, fun b h => ⟨Nat.lt_of_lt_of_le (hD b h) hB.size, fun h => h⟩⟩
theorem a58 : callable Tryd.prog 58 = true := by kernel_rfl

/-- l01Dec, one and two digits -/
def S51 : Sig := ⟨[(false, (.int .i64))], [(false, 0, .str)]⟩
noncomputable def E51a : Env2 := ⟨⟨TB, [], [], ⟨20, [], 0⟩⟩, [], []⟩
noncomputable def G51a (x : Int) : Option ByteArray := (bif (decide (x < (10 : Int))) then (some (Go.strOfNums ((IntKind.wrap .u8 (IntKind.wrap .i64 ((48 : Int) + x))) :: ([] : (List Int))))) else (if ((10 : Int) ≠ (0 : Int)) then none else none))
theorem t51a : tfn E51a Tryd.f51 S51 = G51a := by kernel_rfl
theorem c51a : FT Tryd.prog 51 S51 G51a := FT_fn tb_ok ens_nil enw_nil mixed Tryd.func51 (by kernel_rfl) t51a
theorem a51 : callable Tryd.prog 51 = true := by kernel_rfl
noncomputable def E51 : Env2 := ⟨⟨TB, [⟨51, S51, G51a⟩], [], ⟨20, [], 0⟩⟩, [], []⟩
noncomputable def G51 (x : Int) : Option ByteArray := (bif (decide (x < (10 : Int))) then (some (Go.strOfNums ((IntKind.wrap .u8 (IntKind.wrap .i64 ((48 : Int) + x))) :: ([] : (List Int))))) else (if ((10 : Int) ≠ (0 : Int)) then (Option.bind (G51a (IntKind.wrap .i64 (Int.tdiv x (10 : Int)))) (fun (v0 : ByteArray) => (if ((10 : Int) ≠ (0 : Int)) then (if ((v0.size + (Go.strOfNums ((IntKind.wrap .u8 (IntKind.wrap .i64 ((48 : Int) + (Int.tmod x (10 : Int))))) :: ([] : (List Int)))).size) ≤ 9223372036854775807) then (some (v0 ++ (Go.strOfNums ((IntKind.wrap .u8 (IntKind.wrap .i64 ((48 : Int) + (Int.tmod x (10 : Int))))) :: ([] : (List Int)))))) else none) else none))) else none))
theorem t51 : tfn E51 Tryd.f51 S51 = G51 := by kernel_rfl
theorem c51 : FT Tryd.prog 51 S51 G51 := FT_fn tb_ok (ens_cons a51 c51a ens_nil) enw_nil mixed Tryd.func51 (by kernel_rfl) t51
end Go.Ve.D

