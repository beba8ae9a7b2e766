/- Contracts of library functions at this program (off the shelf), and l01Dec. -/
import Derived.Test.YtcdekmccongjgaaDoorUd2
import Derived.Shelf.Strconv.Itoa3
import Derived.Shelf.Strings.OnBuilder
namespace Go.Proofs
open Go.Shelf Go.RowKit
def Tryd.lays246_ren : Go.Shelf.Ren := ⟨fun | 246 => 66 | 283 => 80 | 284 => 81 | 285 => 82 | 286 => 83 | 129 => 96 | 317 => 95 | 318 => 97 | 319 => 98 | 320 => 99 | 337 => 103 | 338 => 104 | n => n, fun | 2 => 2 | 3 => 3 | 9 => 9 | 4 => 4 | 171 => 122 | 0 => 0 | 53 => 123 | 37 => 98 | 5 => 5 | 173 => 126 | 212 => 142 | 51 => 143 | 20 => 20 | 213 => 144 | 46 => 139 | 232 => 150 | 233 => 151 | n => n, fun | 17 => 0 | 18 => 2 | 19 => 3 | n => n⟩
theorem Tryd.lays246 : Go.Proofs.Lays.n246 Tryd.prog Tryd.lays246_ren := {
  mixed := by kernel_rfl
  f129 := Tryd.func96.trans (congrArg some (by kernel_rfl))
  f246 := Tryd.func66.trans (congrArg some (by kernel_rfl))
  f283 := Tryd.func80.trans (congrArg some (by kernel_rfl))
  f284 := Tryd.func81.trans (congrArg some (by kernel_rfl))
  f285 := Tryd.func82.trans (congrArg some (by kernel_rfl))
  f286 := Tryd.func83.trans (congrArg some (by kernel_rfl))
  f317 := Tryd.func95.trans (congrArg some (by kernel_rfl))
  f318 := Tryd.func97.trans (congrArg some (by kernel_rfl))
  f319 := Tryd.func98.trans (congrArg some (by kernel_rfl))
  f320 := Tryd.func99.trans (congrArg some (by kernel_rfl))
  f337 := Tryd.func103.trans (congrArg some (by kernel_rfl))
  f338 := Tryd.func104.trans (congrArg some (by kernel_rfl))
  t0 := Tryd.underlying0
  a0 := Tryd.isAgg0
  z0 := Tryd.sizeOf0
  v0 := Tryd.zeroValue0
  t2 := Tryd.underlying2
  a2 := Tryd.isAgg2
  z2 := Tryd.sizeOf2
  v2 := Tryd.zeroValue2
  t3 := Tryd.underlying3
  a3 := Tryd.isAgg3
  z3 := Tryd.sizeOf3
  v3 := Tryd.zeroValue3
  t4 := Tryd.underlying4
  a4 := Tryd.isAgg4
  z4 := Tryd.sizeOf4
  v4 := Tryd.zeroValue4
  t5 := Tryd.underlying5
  a5 := Tryd.isAgg5
  z5 := Tryd.sizeOf5
  v5 := Tryd.zeroValue5
  t9 := Tryd.underlying9
  a9 := Tryd.isAgg9
  z9 := Tryd.sizeOf9
  v9 := Tryd.zeroValue9
  t20 := Tryd.underlying20
  a20 := Tryd.isAgg20
  z20 := Tryd.sizeOf20
  v20 := Tryd.zeroValue20
  t37 := Tryd.underlying98
  a37 := Tryd.isAgg98
  z37 := Tryd.sizeOf98
  v37 := Tryd.zeroValue98
  t46 := Tryd.underlying139
  a46 := Tryd.isAgg139
  z46 := Tryd.sizeOf139
  v46 := Tryd.zeroValue139
  t51 := Tryd.underlying143
  a51 := Tryd.isAgg143
  z51 := Tryd.sizeOf143
  v51 := Tryd.zeroValue143
  t53 := Tryd.underlying123
  a53 := Tryd.isAgg123
  z53 := Tryd.sizeOf123
  v53 := Tryd.zeroValue123
  t171 := Tryd.underlying122
  a171 := Tryd.isAgg122
  z171 := Tryd.sizeOf122
  v171 := Tryd.zeroValue122
  t173 := Tryd.underlying126
  a173 := Tryd.isAgg126
  z173 := Tryd.sizeOf126
  v173 := Tryd.zeroValue126
  t212 := Tryd.underlying142
  a212 := Tryd.isAgg142
  z212 := Tryd.sizeOf142
  v212 := Tryd.zeroValue142
  t213 := Tryd.underlying144
  a213 := Tryd.isAgg144
  z213 := Tryd.sizeOf144
  t232 := Tryd.underlying150
  a232 := Tryd.isAgg150
  z232 := Tryd.sizeOf150
  v232 := Tryd.zeroValue150
  t233 := Tryd.underlying151
  a233 := Tryd.isAgg151
  z233 := Tryd.sizeOf151
  v233 := Tryd.zeroValue151
  g17 := by kernel_rfl
  g18 := by kernel_rfl
  g19 := by kernel_rfl }
def Tryd.lays156_ren : Go.Shelf.Ren := ⟨fun | 156 => 51 | 165 => 67 | 166 => 68 | 169 => 69 | 240 => 84 | 241 => 85 | 276 => 100 | 277 => 101 | n => n, fun | 31 => 50 | 9 => 9 | 3 => 3 | 4 => 4 | 0 => 0 | 20 => 20 | 72 => 103 | 76 => 107 | 70 => 101 | 37 => 98 | 75 => 106 | 127 => 128 | 164 => 146 | 5 => 5 | 80 => 58 | n => n, fun | n => n⟩
theorem Tryd.lays156 : Go.Proofs.Lays.n156 Tryd.prog Tryd.lays156_ren := {
  mixed := by kernel_rfl
  f156 := Tryd.func51.trans (congrArg some (by kernel_rfl))
  f165 := Tryd.func67.trans (congrArg some (by kernel_rfl))
  f166 := Tryd.func68.trans (congrArg some (by kernel_rfl))
  f169 := Tryd.func69.trans (congrArg some (by kernel_rfl))
  f240 := Tryd.func84.trans (congrArg some (by kernel_rfl))
  f241 := Tryd.func85.trans (congrArg some (by kernel_rfl))
  f276 := Tryd.func100.trans (congrArg some (by kernel_rfl))
  f277 := Tryd.func101.trans (congrArg some (by kernel_rfl))
  t0 := Tryd.underlying0
  a0 := Tryd.isAgg0
  z0 := Tryd.sizeOf0
  v0 := Tryd.zeroValue0
  t3 := Tryd.underlying3
  a3 := Tryd.isAgg3
  z3 := Tryd.sizeOf3
  v3 := Tryd.zeroValue3
  t4 := Tryd.underlying4
  a4 := Tryd.isAgg4
  z4 := Tryd.sizeOf4
  v4 := Tryd.zeroValue4
  t9 := Tryd.underlying9
  a9 := Tryd.isAgg9
  z9 := Tryd.sizeOf9
  v9 := Tryd.zeroValue9
  t20 := Tryd.underlying20
  a20 := Tryd.isAgg20
  z20 := Tryd.sizeOf20
  v20 := Tryd.zeroValue20
  t31 := Tryd.underlying50
  a31 := Tryd.isAgg50
  z31 := Tryd.sizeOf50
  v31 := Tryd.zeroValue50
  t37 := Tryd.underlying98
  a37 := Tryd.isAgg98
  z37 := Tryd.sizeOf98
  v37 := Tryd.zeroValue98
  t70 := Tryd.underlying101
  a70 := Tryd.isAgg101
  z70 := Tryd.sizeOf101
  v70 := Tryd.zeroValue101
  t72 := Tryd.underlying103
  a72 := Tryd.isAgg103
  z72 := Tryd.sizeOf103
  v72 := Tryd.zeroValue103
  t75 := Tryd.underlying106
  a75 := Tryd.isAgg106
  z75 := Tryd.sizeOf106
  v75 := Tryd.zeroValue106
  t76 := Tryd.underlying107
  a76 := Tryd.isAgg107
  z76 := Tryd.sizeOf107
  v76 := Tryd.zeroValue107
  t127 := Tryd.underlying128
  a127 := Tryd.isAgg128
  z127 := Tryd.sizeOf128
  v127 := Tryd.zeroValue128
  t164 := Tryd.underlying146
  a164 := Tryd.isAgg146
  z164 := Tryd.sizeOf146
  v164 := Tryd.zeroValue146 }
theorem Tryd.builderX : Builder.Extra Tryd.prog Tryd.lays156_ren := {
  sizeBuilder := by kernel_rfl
  liesBuilder := by kernel_rfl
  t5 := Tryd.underlying5
  a5 := Tryd.isAgg5
  z5 := Tryd.sizeOf5
  v5 := Tryd.zeroValue5
  infoByte := by kernel_rfl
  cellsByte := by kernel_rfl
  sizeByte := by kernel_rfl
  neB5 := by decide }
theorem Tryd.fmtSmall (i : Nat) (hi : i < 100) (w : World) :
    Calls Tryd.prog 66 #[.int .i64 i, .int .i64 10] w fun e w' => e = .returned (.string ⟨(Lib.decDigits i).toArray⟩) ∧ w' = w := Any.internal_strconv_FormatInt_10_small Tryd.lays246 i hi w
theorem Tryd.joinNone (a : Option Addr) (c : Nat) (sep : ByteArray) (w : World) :
    Calls Tryd.prog 51 #[.slice a 0 c, .string sep] w fun e w' => e = .returned (.string ⟨#[]⟩) ∧ w' = w := Any.strings_Join_none Tryd.lays156 Tryd.builderX a c sep w
theorem Tryd.join (bk o c : Nat) (xs : List ByteArray) (sep : ByteArray) (w : World) (hcells : ∀ (j : Nat) x, xs[j]? = some x → w.cell? ⟨bk, o + j, none⟩ = some (.string x)) (hbk : bk < w.heap.size) (hN : xs.length ≤ 140737488355328) (hcap : xs.length ≤ c) (hlen : (Lib.join (xs.map (·.data.toList)) sep.data.toList).length ≤ 140737488355328) :
    Calls Tryd.prog 51 #[.slice (some ⟨bk, o, none⟩) xs.length c, .string sep] w fun e w' => e = .returned (.string ⟨(Lib.join (xs.map (·.data.toList)) sep.data.toList).toArray⟩) ∧ Below w.heap.size w w' := Any.strings_Join Tryd.lays156 Tryd.builderX bk o c xs sep w hcells hbk hN hcap hlen
end Go.Proofs
namespace Go.Ve.D
open Go Go.Ve Go.Proofs Go.RowKit
set_option maxRecDepth 100000

theorem args2 {cvs : Array Value} (h : cvs.size = 2) : cvs = #[cvs.getD 0 undef, cvs.getD 1 undef] := by
  apply Array.ext
  · simpa using h
  · intro i h1 h2
    have h3 : i = 0 ∨ i = 1 := by omega
    rcases h3 with rfl | rfl <;> simp [h]

/-- internal/strconv.FormatInt at base 10, below 100 -/
def S66 : Sig := ⟨[(false, (.int .i64)), (false, (.int .i64))], [(false, 0, .str)]⟩
def G66 (x : Int × Int) : Option ByteArray := if 0 ≤ x.1 ∧ x.1 < 100 ∧ x.2 = 10 then some ⟨(Lib.decDigits x.1.toNat).toArray⟩ else none
theorem c66 : FT Tryd.prog 66 S66 G66 := by
  rintro ⟨n, b⟩ y h
  unfold G66 at h
  split at h
  case isFalse => cases h
  rename_i hc
  obtain ⟨h0, h1, h2⟩ := hc
  cases h
  intro w D cvs hD hsz hr
  have r0 : Rel D w noR (.c (.int .i64 n)) (cvs.getD 0 undef) noF := hr 0 (Nat.zero_lt_succ 1)
  have r1 : Rel D w noR (.c (.int .i64 b)) (cvs.getD 1 undef) noF := hr 1 (Nat.lt_succ_self 1)
  rw [args2 hsz, r0.1, r1.1, show @Eq Int b 10 from h2, show @Eq Int n ((n.toNat : Nat) : Int) from (Int.toNat_of_nonneg h0).symm]
  refine (Tryd.fmtSmall (Int.toNat n) ((Int.toNat_lt h0).2 h1) w).mono fun e w' h => ?_
  obtain ⟨rfl, rfl⟩ := h
  exact ⟨_, noF, D, rfl, Below.refl _ _, ⟨rfl, rfl, fun _ h => h⟩, fun _ h => h.elim, fun _ h => h, fun _ h => .inl h, fun b h => ⟨hD b h, fun h => h⟩⟩
theorem a66 : callable Tryd.prog 66 = true := by kernel_rfl

/-- strings.Join -/
def S51 : Sig := ⟨[(false, (.sl .str)), (false, .str)], [(false, 0, .str)]⟩
def G51 (x : List ByteArray × ByteArray) : Option ByteArray := if x.1.length ≤ 140737488355328 ∧ (Lib.join (x.1.map (·.data.toList)) x.2.data.toList).length ≤ 140737488355328 then some ⟨(Lib.join (x.1.map (·.data.toList)) x.2.data.toList).toArray⟩ else none
theorem c51 : FT Tryd.prog 51 S51 G51 := by
  rintro ⟨xs, sep⟩ y h
  unfold G51 at h
  split at h
  case isFalse => cases h
  rename_i hc
  obtain ⟨h1, h2⟩ := hc
  cases h
  intro w D cvs hD hsz hr
  have r0 : Rel D w noR (.nd true false 1 xs.length fun i k => (tyV .str 0 (xs.getD i (Ty.dflt .str))).getD k .dead) (cvs.getD 0 undef) noF := hr 0 (Nat.zero_lt_succ 1)
  have r1 : Rel D w noR (.c (.string sep)) (cvs.getD 1 undef) noF := hr 1 (Nat.lt_succ_self 1)
  rw [args2 hsz, r1.1]
  rcases r0 with ⟨hn, _, hn0, _⟩ | ⟨b, o, cap, F, hcv, hcap, hmax, _, hcell, hi, _⟩
  · obtain ⟨a, ha⟩ := nilO_slice hn0
    cases xs with
    | cons _ _ => simp at hn
    | nil =>
      rw [ha]
      refine (Tryd.joinNone _ _ sep w).mono fun e w' h => ?_
      obtain ⟨rfl, rfl⟩ := h
      exact ⟨_, noF, D, rfl, Below.refl _ _, ⟨rfl, rfl, fun _ h => h⟩, fun _ h => h.elim, fun _ h => h, fun _ h => .inl h, fun b h => ⟨hD b h, fun h => h⟩⟩
  · rw [hcv]
    by_cases hx : xs.length = 0
    · cases xs with
      | cons _ _ => simp at hx
      | nil =>
        refine (Tryd.joinNone _ _ sep w).mono fun e w' h => ?_
        obtain ⟨rfl, rfl⟩ := h
        exact ⟨_, noF, D, rfl, Below.refl _ _, ⟨rfl, rfl, fun _ h => h⟩, fun _ h => h.elim, fun _ h => h, fun _ h => .inl h, fun b h => ⟨hD b h, fun h => h⟩⟩
    · obtain ⟨hDb, _, _⟩ := hi rfl
      have hbk : b < w.heap.size := hD b (hDb (by omega))
      refine (Tryd.join b o cap xs sep w (fun j x hj => ?_) hbk h1 hcap h2).mono fun e w' h => ?_
      · have hjl : j < xs.length := (List.getElem?_eq_some_iff.1 hj).1
        obtain ⟨v, hv, hrv⟩ := hcell j 0 hjl (by decide)
        have hv' : v = .string (xs.getD j (Ty.dflt .str)) := hrv.1
        rw [hv', List.getD_eq_getElem?_getD, hj, Option.getD_some] at hv
        simpa using hv
      · obtain ⟨rfl, hB⟩ := h
        exact ⟨_, noF, D, rfl, hB, ⟨rfl, rfl, fun _ h => h⟩, fun _ h => h.elim, fun _ h => h, fun _ h => .inl h, fun b h => ⟨Nat.lt_of_lt_of_le (hD b h) hB.size, fun h => h⟩⟩
theorem a51 : callable Tryd.prog 51 = true := by kernel_rfl

/-- l01Dec, one and two digits -/
def S42 : Sig := ⟨[(false, (.int .i64))], [(false, 0, .str)]⟩
noncomputable def E42a : Env2 := ⟨⟨TB, [], [], [], ⟨20, [], 0⟩⟩, [], []⟩
noncomputable def G42a (x : Int) : Option ByteArray := (bif (decide (x < (10 : Int))) then (some (Go.strOfNums ((IntKind.wrap .u8 (IntKind.wrap .i64 ((48 : Int) + x))) :: ([] : (List Int))))) else (if ((10 : Int) ≠ (0 : Int)) then none else none))
theorem t42a : tfn E42a Tryd.f42 S42 = G42a := by kernel_rfl
theorem c42a : FT Tryd.prog 42 S42 G42a := FT_fn tb_ok ens_nil enw_nil enn_nil mixed Tryd.func42 (by kernel_rfl) t42a
theorem a42 : callable Tryd.prog 42 = true := by kernel_rfl
noncomputable def E42 : Env2 := ⟨⟨TB, [⟨42, S42, G42a⟩], [], [], ⟨20, [], 0⟩⟩, [], []⟩
noncomputable def G42 (x : Int) : Option ByteArray := (bif (decide (x < (10 : Int))) then (some (Go.strOfNums ((IntKind.wrap .u8 (IntKind.wrap .i64 ((48 : Int) + x))) :: ([] : (List Int))))) else (if ((10 : Int) ≠ (0 : Int)) then (Option.bind (G42a (IntKind.wrap .i64 (Int.tdiv x (10 : Int)))) (fun (v0 : ByteArray) => (if ((10 : Int) ≠ (0 : Int)) then (if ((v0.size + (Go.strOfNums ((IntKind.wrap .u8 (IntKind.wrap .i64 ((48 : Int) + (Int.tmod x (10 : Int))))) :: ([] : (List Int)))).size) ≤ 9223372036854775807) then (some (v0 ++ (Go.strOfNums ((IntKind.wrap .u8 (IntKind.wrap .i64 ((48 : Int) + (Int.tmod x (10 : Int))))) :: ([] : (List Int)))))) else none) else none))) else none))
theorem t42 : tfn E42 Tryd.f42 S42 = G42 := by kernel_rfl
theorem c42 : FT Tryd.prog 42 S42 G42 := FT_fn tb_ok (ens_cons a42 c42a ens_nil) enw_nil enn_nil mixed Tryd.func42 (by kernel_rfl) t42
end Go.Ve.D

