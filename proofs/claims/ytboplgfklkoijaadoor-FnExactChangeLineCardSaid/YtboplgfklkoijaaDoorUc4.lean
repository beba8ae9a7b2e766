/- What the functions compute (printed by Py.lean), and that they do. -/
import Derived.Test.YtboplgfklkoijaaDoorVd4
namespace Go.Ve.D
open Go Go.Ve Go.Proofs
set_option maxRecDepth 100000

/- loop.example/g01083/laws.toChange -/
def S5 : Sig := ⟨[(true, (.pair (.int .i64) (.pair (.int .i64) (.pair (.int .i64) (.int .i64)))))], [(true, 0, (.pair (.int .i64) (.pair (.int .i64) (.pair (.int .i64) (.int .i64)))))]⟩
noncomputable def E5 : Env2 := ⟨⟨TB, [], [], [], ⟨17, [1], 0⟩⟩, [], []⟩
noncomputable def G5 (x : (Int × (Int × (Int × Int)))) : Option (Int × (Int × (Int × Int))) := (some (x.1, (x.2.1, (x.2.2.1, x.2.2.2))))
theorem t5 : tfn E5 Tryd.f5 S5 = G5 := by kernel_rfl
theorem c5 : FT Tryd.prog 5 S5 G5 := FT_fn tb_ok ens_nil enw_nil enn_nil mixed Tryd.func5 (by kernel_rfl) t5
theorem a5 : callable Tryd.prog 5 = true := by kernel_rfl

/- loop.example/g01083/spec.l01Map -/
def S7 : Sig := ⟨[(false, (.int .i64)), (false, (.sl (.int .i64)))], [(false, 0, .bool)]⟩
noncomputable def E7 : Env2 := ⟨⟨TB, [], [], [], ⟨25, [], 0⟩⟩, [(2, [5], [])], []⟩
noncomputable def G7 (x : (Int × (List Int))) : Option Bool := (Option.bind (tloop (fun (v0 : Int) => (bif (decide (v0 < ((x.2.length : Nat) : Int))) then (if (((0 : Int) ≤ v0) ∧ (v0 < ((x.2.length : Nat) : Int))) then (Option.bind (bif (decide ((x.2.getD (v0).toNat (0 : Int)) < (0 : Int))) then (some true) else (if (((0 : Int) ≤ v0) ∧ (v0 < ((x.2.length : Nat) : Int))) then (some (decide (x.1 ≤ (x.2.getD (v0).toNat (0 : Int))))) else none)) (fun (v1 : Bool) => (bif v1 then (retM (some false)) else (some (LO.next (IntKind.wrap .i64 (v0 + (1 : Int)))))))) else none) else (some (LO.brk 0 v0)))) (0 : Int)) (LO.fin fun i0 (v0 : Int) => (if i0 = 0 then (some true) else none)))
theorem t7 : tfn E7 Tryd.f7 S7 = G7 := by kernel_rfl
theorem c7 : FT Tryd.prog 7 S7 G7 := FT_fn tb_ok ens_nil enw_nil enn_nil mixed Tryd.func7 (by kernel_rfl) t7
theorem a7 : callable Tryd.prog 7 = true := by kernel_rfl

/- loop.example/g01083/spec.l01Dec -/
def S12 : Sig := ⟨[(false, (.int .i64))], [(false, 0, .str)]⟩
noncomputable def E12 (r : (PT S12.ps).T → Option (RT S12.rs).T) : Env2 := ⟨⟨TB, [⟨12, S12, r⟩], [], [], ⟨20, [], 0⟩⟩, [], []⟩
noncomputable def B12 (r : Int → Option ByteArray) (x : Int) : Option ByteArray := (bif (decide (x < (10 : Int))) then (some (Go.strOfNums ((IntKind.wrap .u8 (IntKind.wrap .i64 ((48 : Int) + x))) :: ([] : (List Int))))) else (if ((10 : Int) ≠ (0 : Int)) then (Option.bind (r (IntKind.wrap .i64 (Int.tdiv x (10 : Int)))) (fun (v0 : ByteArray) => (if ((10 : Int) ≠ (0 : Int)) then (if ((v0.size + (Go.strOfNums ((IntKind.wrap .u8 (IntKind.wrap .i64 ((48 : Int) + (Int.tmod x (10 : Int))))) :: ([] : (List Int)))).size) ≤ 9223372036854775807) then (some (v0 ++ (Go.strOfNums ((IntKind.wrap .u8 (IntKind.wrap .i64 ((48 : Int) + (Int.tmod x (10 : Int))))) :: ([] : (List Int)))))) else none) else none))) else none))
noncomputable def R12 : Nat → Int → Option ByteArray
  | 0, _ => none
  | n + 1, x => B12 (R12 n) x
noncomputable def G12 (x : Int) : Option ByteArray := R12 4096 x
theorem t12 : (fun r => tfn (E12 r) Tryd.f12 S12) = B12 := by kernel_rfl
theorem a12 : callable Tryd.prog 12 = true := by kernel_rfl
theorem b12 {r : (PT S12.ps).T → Option (RT S12.rs).T} (h : FT Tryd.prog 12 S12 r) : FT Tryd.prog 12 S12 (B12 r) := FT_fn (E := E12 r) tb_ok (ens_cons a12 h ens_nil) enw_nil enn_nil mixed Tryd.func12 (by kernel_rfl) (congrFun t12 r)
theorem r12 : ∀ n, FT Tryd.prog 12 S12 (R12 n)
  | 0 => fun _ _ h => by cases h
  | n + 1 => b12 (r12 n)
theorem c12 : FT Tryd.prog 12 S12 G12 := r12 4096

/- loop.example/g01083/spec.l39Line -/
def S8 : Sig := ⟨[(true, (.pair (.int .i64) (.pair (.int .i64) (.pair (.int .i64) (.int .i64)))))], [(false, 0, .str)]⟩
noncomputable def E8 : Env2 := ⟨⟨TB, [⟨12, S12, G12⟩], [], [], ⟨24, [1], 0⟩⟩, [], []⟩
noncomputable def G8 (x : (Int × (Int × (Int × Int)))) : Option ByteArray := (bif (decide (x.1 = (1 : Int))) then (Option.bind (G12 x.2.1) (fun (v0 : ByteArray) => (if (((ByteArray.mk #[97, 100, 100, 32]).size + v0.size) ≤ 9223372036854775807) then (some ((ByteArray.mk #[97, 100, 100, 32]) ++ v0)) else none))) else (Option.bind (G12 x.2.1) (fun (v0 : ByteArray) => (if (((ByteArray.mk #[115, 101, 116, 32]).size + v0.size) ≤ 9223372036854775807) then (if ((((ByteArray.mk #[115, 101, 116, 32]) ++ v0).size + (ByteArray.mk #[32]).size) ≤ 9223372036854775807) then (Option.bind (G12 x.2.2.1) (fun (v1 : ByteArray) => (if (((((ByteArray.mk #[115, 101, 116, 32]) ++ v0) ++ (ByteArray.mk #[32])).size + v1.size) ≤ 9223372036854775807) then (if ((((((ByteArray.mk #[115, 101, 116, 32]) ++ v0) ++ (ByteArray.mk #[32])) ++ v1).size + (ByteArray.mk #[32]).size) ≤ 9223372036854775807) then (Option.bind (G12 x.2.2.2) (fun (v2 : ByteArray) => (if (((((((ByteArray.mk #[115, 101, 116, 32]) ++ v0) ++ (ByteArray.mk #[32])) ++ v1) ++ (ByteArray.mk #[32])).size + v2.size) ≤ 9223372036854775807) then (some ((((((ByteArray.mk #[115, 101, 116, 32]) ++ v0) ++ (ByteArray.mk #[32])) ++ v1) ++ (ByteArray.mk #[32])) ++ v2)) else none))) else none) else none))) else none) else none))))
theorem t8 : tfn E8 Tryd.f8 S8 = G8 := by kernel_rfl
theorem c8 : FT Tryd.prog 8 S8 G8 := FT_fn tb_ok (ens_cons a12 c12 ens_nil) enw_nil enn_nil mixed Tryd.func8 (by kernel_rfl) t8
theorem a8 : callable Tryd.prog 8 = true := by kernel_rfl

/- loop.example/g01083/spec.ChangeLine -/
def S4 : Sig := ⟨[(true, (.pair (.int .i64) (.pair (.int .i64) (.pair (.int .i64) (.int .i64)))))], [(false, 0, .str), (false, 0, (.int .i64))]⟩
noncomputable def E4 : Env2 := ⟨⟨TB, [⟨7, S7, G7⟩, ⟨8, S8, G8⟩], [], [], ⟨35, [1], 0⟩⟩, [], []⟩
noncomputable def G4 (x : (Int × (Int × (Int × Int)))) : Option (ByteArray × Int) := (Option.bind (G7 ((1000000000 : Int), (x.2.1 :: (x.2.2.1 :: (x.2.2.2 :: ([] : (List Int))))))) (fun (v0 : Bool) => (Option.bind (bif (!v0) then (some true) else (bif (!decide (x.1 = (2 : Int))) then (bif (!decide (x.1 = (1 : Int))) then (bif true then (some true) else (some (!decide (x.2.2.2 = (0 : Int))))) else (bif (!decide (x.2.2.1 = (0 : Int))) then (some true) else (some (!decide (x.2.2.2 = (0 : Int)))))) else (some false))) (fun (v1 : Bool) => (bif v1 then (some ((ByteArray.mk #[]), (2 : Int))) else (Option.bind (G8 (x.1, (x.2.1, (x.2.2.1, x.2.2.2)))) (fun (v2 : ByteArray) => (some (v2, (0 : Int))))))))))
theorem t4 : tfn E4 Tryd.f4 S4 = G4 := by kernel_rfl
theorem c4 : FT Tryd.prog 4 S4 G4 := FT_fn tb_ok (ens_cons a7 c7 (ens_cons a8 c8 ens_nil)) enw_nil enn_nil mixed Tryd.func4 (by kernel_rfl) t4
theorem a4 : callable Tryd.prog 4 = true := by kernel_rfl

/- (loop.example/g01083/impl.Change).isChange -/
def S9 : Sig := ⟨[(true, (.pair (.int .i64) (.pair (.int .i64) (.pair (.int .i64) (.int .i64)))))], [(false, 0, .bool)]⟩
noncomputable def E9 : Env2 := ⟨⟨TB, [], [], [], ⟨17, [1], 0⟩⟩, [], []⟩
noncomputable def G9 (x : (Int × (Int × (Int × Int)))) : Option Bool := (bif (decide (x.1 = (1 : Int))) then (Option.bind (bif (decide (x.2.2.1 = (0 : Int))) then (some (decide (x.2.2.2 = (0 : Int)))) else (some false)) (fun (v0 : Bool) => (some v0))) else (bif (decide (x.1 = (2 : Int))) then (some true) else (some false)))
theorem t9 : tfn E9 Tryd.f9 S9 = G9 := by kernel_rfl
theorem c9 : FT Tryd.prog 9 S9 G9 := FT_fn tb_ok ens_nil enw_nil enn_nil mixed Tryd.func9 (by kernel_rfl) t9
theorem a9 : callable Tryd.prog 9 = true := by kernel_rfl

/- loop.example/g01083/impl.inRange -/
def S13 : Sig := ⟨[(false, (.int .i64)), (false, (.int .i64)), (false, (.int .i64))], [(false, 0, .bool)]⟩
noncomputable def E13 : Env2 := ⟨⟨TB, [], [], [], ⟨15, [], 0⟩⟩, [], []⟩
noncomputable def G13 (x : (Int × (Int × Int))) : Option Bool := (Option.bind (bif (decide (x.2.1 ≤ x.1)) then (some (decide (x.1 ≤ x.2.2))) else (some false)) (fun (v0 : Bool) => (some v0)))
theorem t13 : tfn E13 Tryd.f13 S13 = G13 := by kernel_rfl
theorem c13 : FT Tryd.prog 13 S13 G13 := FT_fn tb_ok ens_nil enw_nil enn_nil mixed Tryd.func13 (by kernel_rfl) t13
theorem a13 : callable Tryd.prog 13 = true := by kernel_rfl

/- loop.example/g01083/impl.within -/
def S10 : Sig := ⟨[(false, (.sl (.int .i64))), (false, (.int .i64))], [(false, 0, .bool)]⟩
noncomputable def E10 : Env2 := ⟨⟨TB, [⟨13, S13, G13⟩], [], [], ⟨19, [], 0⟩⟩, [(2, [9], [])], []⟩
noncomputable def G10 (x : ((List Int) × Int)) : Option Bool := (Option.bind (tloop (fun (v0 : Int) => (bif (decide (v0 < ((x.1.length : Nat) : Int))) then (if (((0 : Int) ≤ v0) ∧ (v0 < ((x.1.length : Nat) : Int))) then (Option.bind (G13 ((x.1.getD (v0).toNat (0 : Int)), ((0 : Int), (IntKind.wrap .i64 (x.2 - (1 : Int)))))) (fun (v1 : Bool) => (bif (!v1) then (retM (some false)) else (some (LO.next (IntKind.wrap .i64 (v0 + (1 : Int)))))))) else none) else (some (LO.brk 0 v0)))) (0 : Int)) (LO.fin fun i0 (v0 : Int) => (if i0 = 0 then (some true) else none)))
theorem t10 : tfn E10 Tryd.f10 S10 = G10 := by kernel_rfl
theorem c10 : FT Tryd.prog 10 S10 G10 := FT_fn tb_ok (ens_cons a13 c13 ens_nil) enw_nil enn_nil mixed Tryd.func10 (by kernel_rfl) t10
theorem a10 : callable Tryd.prog 10 = true := by kernel_rfl

/- strconv.FormatInt -/
def S14 : Sig := ⟨[(false, (.int .i64)), (false, (.int .i64))], [(false, 0, .str)]⟩
noncomputable def E14 : Env2 := ⟨⟨TB, [⟨15, S15, G15⟩], [], [], ⟨8, [], 0⟩⟩, [], []⟩
noncomputable def G14 (x : (Int × Int)) : Option ByteArray := (Option.bind (G15 (x.1, x.2)) (fun (v0 : ByteArray) => (some v0)))
theorem t14 : tfn E14 Tryd.f14 S14 = G14 := by kernel_rfl
theorem c14 : FT Tryd.prog 14 S14 G14 := FT_fn tb_ok (ens_cons a15 c15 ens_nil) enw_nil enn_nil mixed Tryd.func14 (by kernel_rfl) t14
theorem a14 : callable Tryd.prog 14 = true := by kernel_rfl

/- (loop.example/g01083/impl.Change).line -/
def S11 : Sig := ⟨[(true, (.pair (.int .i64) (.pair (.int .i64) (.pair (.int .i64) (.int .i64)))))], [(false, 0, .str)]⟩
noncomputable def E11 : Env2 := ⟨⟨TB, [⟨14, S14, G14⟩], [], [], ⟨24, [1], 0⟩⟩, [], []⟩
noncomputable def G11 (x : (Int × (Int × (Int × Int)))) : Option ByteArray := (Option.bind (G14 (x.2.1, (10 : Int))) (fun (v0 : ByteArray) => (bif (decide (x.1 = (1 : Int))) then (if (((ByteArray.mk #[97, 100, 100, 32]).size + v0.size) ≤ 9223372036854775807) then (some ((ByteArray.mk #[97, 100, 100, 32]) ++ v0)) else none) else (if (((ByteArray.mk #[115, 101, 116, 32]).size + v0.size) ≤ 9223372036854775807) then (if ((((ByteArray.mk #[115, 101, 116, 32]) ++ v0).size + (ByteArray.mk #[32]).size) ≤ 9223372036854775807) then (Option.bind (G14 (x.2.2.1, (10 : Int))) (fun (v1 : ByteArray) => (if (((((ByteArray.mk #[115, 101, 116, 32]) ++ v0) ++ (ByteArray.mk #[32])).size + v1.size) ≤ 9223372036854775807) then (if ((((((ByteArray.mk #[115, 101, 116, 32]) ++ v0) ++ (ByteArray.mk #[32])) ++ v1).size + (ByteArray.mk #[32]).size) ≤ 9223372036854775807) then (Option.bind (G14 (x.2.2.2, (10 : Int))) (fun (v2 : ByteArray) => (if (((((((ByteArray.mk #[115, 101, 116, 32]) ++ v0) ++ (ByteArray.mk #[32])) ++ v1) ++ (ByteArray.mk #[32])).size + v2.size) ≤ 9223372036854775807) then (some ((((((ByteArray.mk #[115, 101, 116, 32]) ++ v0) ++ (ByteArray.mk #[32])) ++ v1) ++ (ByteArray.mk #[32])) ++ v2)) else none))) else none) else none))) else none) else none))))
theorem t11 : tfn E11 Tryd.f11 S11 = G11 := by kernel_rfl
theorem c11 : FT Tryd.prog 11 S11 G11 := FT_fn tb_ok (ens_cons a14 c14 ens_nil) enw_nil enn_nil mixed Tryd.func11 (by kernel_rfl) t11
theorem a11 : callable Tryd.prog 11 = true := by kernel_rfl

/- loop.example/g01083/impl.ChangeLine -/
def S6 : Sig := ⟨[(true, (.pair (.int .i64) (.pair (.int .i64) (.pair (.int .i64) (.int .i64)))))], [(false, 0, .str), (false, 0, (.int .i64))]⟩
noncomputable def E6 : Env2 := ⟨⟨TB, [⟨9, S9, G9⟩, ⟨10, S10, G10⟩, ⟨11, S11, G11⟩], [], [], ⟨20, [1, 14, 15], 0⟩⟩, [], []⟩
noncomputable def G6 (x : (Int × (Int × (Int × Int)))) : Option (ByteArray × Int) := (Option.bind (G9 (x.1, (x.2.1, (x.2.2.1, x.2.2.2)))) (fun (v0 : Bool) => (Option.bind (bif (!v0) then (some true) else (Option.bind (G10 ((x.2.1 :: (x.2.2.1 :: (x.2.2.2 :: ([] : (List Int))))), (1000000000 : Int))) (fun (v1 : Bool) => (some (!v1))))) (fun (v1 : Bool) => (bif v1 then (some ((ByteArray.mk #[]), (2 : Int))) else (Option.bind (G11 (x.1, (x.2.1, (x.2.2.1, x.2.2.2)))) (fun (v2 : ByteArray) => (some (v2, (0 : Int))))))))))
theorem t6 : tfn E6 Tryd.f6 S6 = G6 := by kernel_rfl
theorem c6 : FT Tryd.prog 6 S6 G6 := FT_fn tb_ok (ens_cons a9 c9 (ens_cons a10 c10 (ens_cons a11 c11 ens_nil))) enw_nil enn_nil mixed Tryd.func6 (by kernel_rfl) t6
theorem a6 : callable Tryd.prog 6 = true := by kernel_rfl

/- loop.example/g01083/laws.FnExactChangeLine -/
def S3 : Sig := ⟨[(true, (.pair (.int .i64) (.pair (.int .i64) (.pair (.int .i64) (.int .i64)))))], [(false, 0, .bool)]⟩
noncomputable def E3 : Env2 := ⟨⟨TB, [⟨5, S5, G5⟩, ⟨4, S4, G4⟩, ⟨6, S6, G6⟩], [], [], ⟨27, [1], 0⟩⟩, [], []⟩
noncomputable def G3 (x : (Int × (Int × (Int × Int)))) : Option Bool := (Option.bind (G5 (x.1, (x.2.1, (x.2.2.1, x.2.2.2)))) (fun (v0 : (Int × (Int × (Int × Int)))) => (Option.bind (G4 (v0.1, (v0.2.1, (v0.2.2.1, v0.2.2.2)))) (fun (v1 : (ByteArray × Int)) => (Option.bind (G5 (x.1, (x.2.1, (x.2.2.1, x.2.2.2)))) (fun (v2 : (Int × (Int × (Int × Int)))) => (Option.bind (G6 (v2.1, (v2.2.1, (v2.2.2.1, v2.2.2.2)))) (fun (v3 : (ByteArray × Int)) => (Option.bind (bif (neS v3.1 v1.1) then (some true) else (some (!decide (v3.2 = v1.2)))) (fun (v4 : Bool) => (bif v4 then (some false) else (some true))))))))))))
theorem t3 : tfn E3 Tryd.f3 S3 = G3 := by kernel_rfl
theorem c3 : FT Tryd.prog 3 S3 G3 := FT_fn tb_ok (ens_cons a5 c5 (ens_cons a4 c4 (ens_cons a6 c6 ens_nil))) enw_nil enn_nil mixed Tryd.func3 (by kernel_rfl) t3
theorem a3 : callable Tryd.prog 3 = true := by kernel_rfl

end Go.Ve.D

