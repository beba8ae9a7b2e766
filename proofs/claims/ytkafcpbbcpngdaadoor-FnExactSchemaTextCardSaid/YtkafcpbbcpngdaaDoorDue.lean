/- What the functions compute (printed by Py.lean), and that they do. -/
import Derived.Test.YtkafcpbbcpngdaaDoorDv
namespace Go.Ve.D
open Go Go.Ve Go.Proofs
set_option maxRecDepth 100000

/- loop.example/g01083/laws.szInt64S -/
def S30 : Sig := ⟨[(false, (.sl (.int .i64))), (false, (.int .i64))], [(false, 0, (.int .i64))]⟩
noncomputable def E30 : Env2 := ⟨⟨TB, [], [], ⟨12, [], 0⟩⟩, [], []⟩
noncomputable def G30 (x : ((List Int) × Int)) : Option Int := (bif (decide ((IntKind.wrap .i64 (x.2 - ((x.1.length : Nat) : Int))) < (0 : Int))) then (some (-(1 : Int))) else (some (IntKind.wrap .i64 (x.2 - ((x.1.length : Nat) : Int)))))
theorem t30 : tfn E30 Tryd.f30 S30 = G30 := by kernel_rfl
theorem c30 : FT Tryd.prog 30 S30 G30 := FT_fn tb_ok ens_nil enw_nil mixed Tryd.func30 (by kernel_rfl) t30
theorem a30 : callable Tryd.prog 30 = true := by kernel_rfl

/- loop.example/g01083/laws.szPath -/
def S11 : Sig := ⟨[(true, (.pair (.int .i64) (.sl (.int .i64)))), (false, (.int .i64))], [(false, 0, (.int .i64))]⟩
noncomputable def E11 : Env2 := ⟨⟨TB, [⟨30, S30, G30⟩], [], ⟨12, [2], 0⟩⟩, [], []⟩
noncomputable def G11 (x : ((Int × (List Int)) × Int)) : Option Int := (Option.bind (G30 (x.1.2, x.2)) (fun (v0 : Int) => (bif (decide (v0 < (0 : Int))) then (some (-(1 : Int))) else (some v0))))
theorem t11 : tfn E11 Tryd.f11 S11 = G11 := by kernel_rfl
theorem c11 : FT Tryd.prog 11 S11 G11 := FT_fn tb_ok (ens_cons a30 c30 ens_nil) enw_nil mixed Tryd.func11 (by kernel_rfl) t11
theorem a11 : callable Tryd.prog 11 = true := by kernel_rfl

/- loop.example/g01083/laws.szPathS -/
def S31 : Sig := ⟨[(false, (.sl (.pair (.int .i64) (.sl (.int .i64))))), (false, (.int .i64))], [(false, 0, (.int .i64))]⟩
noncomputable def E31 : Env2 := ⟨⟨TB, [⟨11, S11, G11⟩], [], ⟨27, [], 0⟩⟩, [(5, [1, 5], [])], []⟩
noncomputable def G31 (x : ((List (Int × (List Int))) × Int)) : Option Int := (bif (decide ((IntKind.wrap .i64 (x.2 - ((x.1.length : Nat) : Int))) < (0 : Int))) then (some (-(1 : Int))) else (Option.bind (tloop (fun (v0 : (Int × Int)) => (bif (decide (v0.2 < ((x.1.length : Nat) : Int))) then (if (((0 : Int) ≤ v0.2) ∧ (v0.2 < ((x.1.length : Nat) : Int))) then (Option.bind (G11 (((x.1.getD (v0.2).toNat ((0 : Int), ([] : (List Int)))).1, (x.1.getD (v0.2).toNat ((0 : Int), ([] : (List Int)))).2), v0.1)) (fun (v1 : Int) => (bif (decide (v1 < (0 : Int))) then (retM (some (-(1 : Int)))) else (some (LO.next (v1, (IntKind.wrap .i64 (v0.2 + (1 : Int))))))))) else none) else (some (LO.brk 0 (v0.1, v0.2))))) ((IntKind.wrap .i64 (x.2 - ((x.1.length : Nat) : Int))), (0 : Int))) (LO.fin fun i0 (v0 : (Int × Int)) => (if i0 = 0 then (some v0.1) else none))))
theorem t31 : tfn E31 Tryd.f31 S31 = G31 := by kernel_rfl
theorem c31 : FT Tryd.prog 31 S31 G31 := FT_fn tb_ok (ens_cons a11 c11 ens_nil) enw_nil mixed Tryd.func31 (by kernel_rfl) t31
theorem a31 : callable Tryd.prog 31 = true := by kernel_rfl

/- loop.example/g01083/laws.szSchema -/
def S10 : Sig := ⟨[(true, (.pair (.int .i64) (.pair (.sl (.int .i64)) (.pair (.sl (.int .i64)) (.pair (.sl (.pair (.int .i64) (.sl (.int .i64)))) (.sl (.pair (.int .i64) (.sl (.int .i64))))))))), (false, (.int .i64))], [(false, 0, (.int .i64))]⟩
noncomputable def E10 : Env2 := ⟨⟨TB, [⟨30, S30, G30⟩, ⟨31, S31, G31⟩], [], ⟨30, [2], 0⟩⟩, [], []⟩
noncomputable def G10 (x : ((Int × ((List Int) × ((List Int) × ((List (Int × (List Int))) × (List (Int × (List Int))))))) × Int)) : Option Int := (Option.bind (G30 (x.1.2.1, x.2)) (fun (v0 : Int) => (bif (decide (v0 < (0 : Int))) then (some (-(1 : Int))) else (Option.bind (G30 (x.1.2.2.1, v0)) (fun (v1 : Int) => (bif (decide (v1 < (0 : Int))) then (some (-(1 : Int))) else (Option.bind (G31 (x.1.2.2.2.1, v1)) (fun (v2 : Int) => (bif (decide (v2 < (0 : Int))) then (some (-(1 : Int))) else (Option.bind (G31 (x.1.2.2.2.2, v2)) (fun (v3 : Int) => (bif (decide (v3 < (0 : Int))) then (some (-(1 : Int))) else (some v3)))))))))))))
theorem t10 : tfn E10 Tryd.f10 S10 = G10 := by kernel_rfl
theorem c10 : FT Tryd.prog 10 S10 G10 := FT_fn tb_ok (ens_cons a30 c30 (ens_cons a31 c31 ens_nil)) enw_nil mixed Tryd.func10 (by kernel_rfl) t10
theorem a10 : callable Tryd.prog 10 = true := by kernel_rfl

/- loop.example/g01083/laws.toInt64S -/
def S34 : Sig := ⟨[(false, (.sl (.int .i64)))], [(false, 1, (.sl (.int .i64)))]⟩
noncomputable def E34 : Env2 := ⟨⟨TB, [], [], ⟨22, [], 0⟩⟩, [(3, [3, 4], [1])], []⟩
noncomputable def G34 (x : (List Int)) : Option (List Int) := (if (((0 : Int) ≤ ((x.length : Nat) : Int)) ∧ ((((x.length : Nat) : Int) ≤ ((x.length : Nat) : Int)) ∧ ((((8 : Int) * ((x.length : Nat) : Int)) ≤ (281474976710656 : Int)) ∧ (((x.length : Nat) : Int) ≤ (9223372036854775807 : Int))))) then (Option.bind (tloop (fun (v0 : (Int × (List Int))) => (bif (decide (v0.1 < ((x.length : Nat) : Int))) then (if (((0 : Int) ≤ v0.1) ∧ (v0.1 < ((x.length : Nat) : Int))) then (if (((0 : Int) ≤ v0.1) ∧ (v0.1 < ((v0.2.length : Nat) : Int))) then (some (LO.next ((IntKind.wrap .i64 (v0.1 + (1 : Int))), (v0.2.set (v0.1).toNat (x.getD (v0.1).toNat (0 : Int)))))) else none) else none) else (some (LO.brk 0 (v0.1, v0.2))))) ((0 : Int), (List.replicate (((x.length : Nat) : Int)).toNat (0 : Int)))) (LO.fin fun i0 (v0 : (Int × (List Int))) => (if i0 = 0 then (some v0.2) else none))) else none)
theorem t34 : tfn E34 Tryd.f34 S34 = G34 := by kernel_rfl
theorem c34 : FT Tryd.prog 34 S34 G34 := FT_fn tb_ok ens_nil enw_nil mixed Tryd.func34 (by kernel_rfl) t34
theorem a34 : callable Tryd.prog 34 = true := by kernel_rfl

/- loop.example/g01083/laws.toPath -/
def S14 : Sig := ⟨[(true, (.pair (.int .i64) (.sl (.int .i64))))], [(true, 1, (.pair (.int .i64) (.sl (.int .i64))))]⟩
noncomputable def E14 : Env2 := ⟨⟨TB, [⟨34, S34, G34⟩], [], ⟨12, [1], 0⟩⟩, [], []⟩
noncomputable def G14 (x : (Int × (List Int))) : Option (Int × (List Int)) := (Option.bind (G34 x.2) (fun (v0 : (List Int)) => (some (x.1, v0))))
theorem t14 : tfn E14 Tryd.f14 S14 = G14 := by kernel_rfl
theorem c14 : FT Tryd.prog 14 S14 G14 := FT_fn tb_ok (ens_cons a34 c34 ens_nil) enw_nil mixed Tryd.func14 (by kernel_rfl) t14
theorem a14 : callable Tryd.prog 14 = true := by kernel_rfl

/- loop.example/g01083/laws.toPathS -/
def S35 : Sig := ⟨[(false, (.sl (.pair (.int .i64) (.sl (.int .i64)))))], [(false, 2, (.sl (.pair (.int .i64) (.sl (.int .i64)))))]⟩
noncomputable def E35 : Env2 := ⟨⟨TB, [⟨14, S14, G14⟩], [], ⟨23, [], 0⟩⟩, [(3, [3, 4], [1])], []⟩
noncomputable def G35 (x : (List (Int × (List Int)))) : Option (List (Int × (List Int))) := (if (((0 : Int) ≤ ((x.length : Nat) : Int)) ∧ ((((x.length : Nat) : Int) ≤ ((x.length : Nat) : Int)) ∧ ((((32 : Int) * ((x.length : Nat) : Int)) ≤ (281474976710656 : Int)) ∧ (((x.length : Nat) : Int) ≤ (9223372036854775807 : Int))))) then (Option.bind (tloop (fun (v0 : (Int × (List (Int × (List Int))))) => (bif (decide (v0.1 < ((x.length : Nat) : Int))) then (if (((0 : Int) ≤ v0.1) ∧ (v0.1 < ((x.length : Nat) : Int))) then (Option.bind (G14 ((x.getD (v0.1).toNat ((0 : Int), ([] : (List Int)))).1, (x.getD (v0.1).toNat ((0 : Int), ([] : (List Int)))).2)) (fun (v1 : (Int × (List Int))) => (if (((0 : Int) ≤ v0.1) ∧ (v0.1 < ((v0.2.length : Nat) : Int))) then (some (LO.next ((IntKind.wrap .i64 (v0.1 + (1 : Int))), ((v0.2.set (v0.1).toNat (v1.1, (v0.2.getD (v0.1).toNat ((0 : Int), ([] : (List Int)))).2)).set (v0.1).toNat (((v0.2.set (v0.1).toNat (v1.1, (v0.2.getD (v0.1).toNat ((0 : Int), ([] : (List Int)))).2)).getD (v0.1).toNat ((0 : Int), ([] : (List Int)))).1, v1.2))))) else none))) else none) else (some (LO.brk 0 (v0.1, v0.2))))) ((0 : Int), (List.replicate (((x.length : Nat) : Int)).toNat ((0 : Int), ([] : (List Int)))))) (LO.fin fun i0 (v0 : (Int × (List (Int × (List Int))))) => (if i0 = 0 then (some v0.2) else none))) else none)
theorem t35 : tfn E35 Tryd.f35 S35 = G35 := by kernel_rfl
theorem c35 : FT Tryd.prog 35 S35 G35 := FT_fn tb_ok (ens_cons a14 c14 ens_nil) enw_nil mixed Tryd.func35 (by kernel_rfl) t35
theorem a35 : callable Tryd.prog 35 = true := by kernel_rfl

/- loop.example/g01083/laws.toSchema -/
def S13 : Sig := ⟨[(true, (.pair (.int .i64) (.pair (.sl (.int .i64)) (.pair (.sl (.int .i64)) (.pair (.sl (.pair (.int .i64) (.sl (.int .i64)))) (.sl (.pair (.int .i64) (.sl (.int .i64)))))))))], [(true, 2, (.pair (.int .i64) (.pair (.sl (.int .i64)) (.pair (.sl (.int .i64)) (.pair (.sl (.pair (.int .i64) (.sl (.int .i64)))) (.sl (.pair (.int .i64) (.sl (.int .i64)))))))))]⟩
noncomputable def E13 : Env2 := ⟨⟨TB, [⟨34, S34, G34⟩, ⟨35, S35, G35⟩], [], ⟨24, [1], 0⟩⟩, [], []⟩
noncomputable def G13 (x : (Int × ((List Int) × ((List Int) × ((List (Int × (List Int))) × (List (Int × (List Int)))))))) : Option (Int × ((List Int) × ((List Int) × ((List (Int × (List Int))) × (List (Int × (List Int))))))) := (Option.bind (G34 x.2.1) (fun (v0 : (List Int)) => (Option.bind (G34 x.2.2.1) (fun (v1 : (List Int)) => (Option.bind (G35 x.2.2.2.1) (fun (v2 : (List (Int × (List Int)))) => (Option.bind (G35 x.2.2.2.2) (fun (v3 : (List (Int × (List Int)))) => (some (x.1, (v0, (v1, (v2, v3)))))))))))))
theorem t13 : tfn E13 Tryd.f13 S13 = G13 := by kernel_rfl
theorem c13 : FT Tryd.prog 13 S13 G13 := FT_fn tb_ok (ens_cons a34 c34 (ens_cons a35 c35 ens_nil)) enw_nil mixed Tryd.func13 (by kernel_rfl) t13
theorem a13 : callable Tryd.prog 13 = true := by kernel_rfl

/- loop.example/g01083/spec.l01In -/
def S56 : Sig := ⟨[(false, (.int .i64)), (false, (.int .i64)), (false, (.int .i64))], [(false, 0, .bool)]⟩
noncomputable def E56 : Env2 := ⟨⟨TB, [], [], ⟨15, [], 0⟩⟩, [], []⟩
noncomputable def G56 (x : (Int × (Int × Int))) : Option Bool := (Option.bind (bif (decide (x.2.1 ≤ x.1)) then (some (decide (x.1 ≤ x.2.2))) else (some false)) (fun (v0 : Bool) => (some v0)))
theorem t56 : tfn E56 Tryd.f56 S56 = G56 := by kernel_rfl
theorem c56 : FT Tryd.prog 56 S56 G56 := FT_fn tb_ok ens_nil enw_nil mixed Tryd.func56 (by kernel_rfl) t56
theorem a56 : callable Tryd.prog 56 = true := by kernel_rfl

/- loop.example/g01083/spec.l01Map -/
def S25 : Sig := ⟨[(false, (.int .i64)), (false, (.sl (.int .i64)))], [(false, 0, .bool)]⟩
noncomputable def E25 : Env2 := ⟨⟨TB, [], [], ⟨25, [], 0⟩⟩, [(2, [5], [])], []⟩
noncomputable def G25 (x : (Int × (List Int))) : Option Bool := (Option.bind (tloop (fun (v0 : Int) => (bif (decide (v0 < ((x.2.length : Nat) : Int))) then (if (((0 : Int) ≤ v0) ∧ (v0 < ((x.2.length : Nat) : Int))) then (Option.bind (bif (decide ((x.2.getD (v0).toNat (0 : Int)) < (0 : Int))) then (some true) else (if (((0 : Int) ≤ v0) ∧ (v0 < ((x.2.length : Nat) : Int))) then (some (decide (x.1 ≤ (x.2.getD (v0).toNat (0 : Int))))) else none)) (fun (v1 : Bool) => (bif v1 then (retM (some false)) else (some (LO.next (IntKind.wrap .i64 (v0 + (1 : Int)))))))) else none) else (some (LO.brk 0 v0)))) (0 : Int)) (LO.fin fun i0 (v0 : Int) => (if i0 = 0 then (some true) else none)))
theorem t25 : tfn E25 Tryd.f25 S25 = G25 := by kernel_rfl
theorem c25 : FT Tryd.prog 25 S25 G25 := FT_fn tb_ok ens_nil enw_nil mixed Tryd.func25 (by kernel_rfl) t25
theorem a25 : callable Tryd.prog 25 = true := by kernel_rfl

/- loop.example/g01083/spec.l36Path -/
def S54 : Sig := ⟨[(true, (.pair (.int .i64) (.pair (.sl (.int .i64)) (.pair (.sl (.int .i64)) (.pair (.sl (.pair (.int .i64) (.sl (.int .i64)))) (.sl (.pair (.int .i64) (.sl (.int .i64))))))))), (true, (.pair (.int .i64) (.sl (.int .i64))))], [(false, 0, .bool)]⟩
noncomputable def E54 : Env2 := ⟨⟨TB, [⟨56, S56, G56⟩, ⟨25, S25, G25⟩], [], ⟨58, [2, 3], 0⟩⟩, [(5, [5, 6], [])], []⟩
noncomputable def G54 (x : ((Int × ((List Int) × ((List Int) × ((List (Int × (List Int))) × (List (Int × (List Int))))))) × (Int × (List Int)))) : Option Bool := (Option.bind (G56 (x.2.1, ((0 : Int), (IntKind.wrap .i64 (x.1.1 - (1 : Int)))))) (fun (v0 : Bool) => (Option.bind (bif (!v0) then (some true) else (some (decide ((6 : Int) < ((x.2.2.length : Nat) : Int))))) (fun (v1 : Bool) => (Option.bind (bif v1 then (some true) else (Option.bind (G25 (((x.1.2.1.length : Nat) : Int), x.2.2)) (fun (v2 : Bool) => (some (!v2))))) (fun (v2 : Bool) => (bif v2 then (some false) else (Option.bind (tloop (fun (v3 : (Int × Int)) => (bif (decide (v3.2 < ((x.2.2.length : Nat) : Int))) then (if (((0 : Int) ≤ v3.2) ∧ (v3.2 < ((x.2.2.length : Nat) : Int))) then (if (((0 : Int) ≤ (x.2.2.getD (v3.2).toNat (0 : Int))) ∧ ((x.2.2.getD (v3.2).toNat (0 : Int)) < ((x.1.2.1.length : Nat) : Int))) then (bif (!decide ((x.1.2.1.getD ((x.2.2.getD (v3.2).toNat (0 : Int))).toNat (0 : Int)) = v3.1)) then (retM (some false)) else (if (((0 : Int) ≤ v3.2) ∧ (v3.2 < ((x.2.2.length : Nat) : Int))) then (if (((0 : Int) ≤ (x.2.2.getD (v3.2).toNat (0 : Int))) ∧ ((x.2.2.getD (v3.2).toNat (0 : Int)) < ((x.1.2.2.1.length : Nat) : Int))) then (some (LO.next ((x.1.2.2.1.getD ((x.2.2.getD (v3.2).toNat (0 : Int))).toNat (0 : Int)), (IntKind.wrap .i64 (v3.2 + (1 : Int)))))) else none) else none)) else none) else none) else (some (LO.brk 0 (v3.1, v3.2))))) (x.2.1, (0 : Int))) (LO.fin fun i3 (v3 : (Int × Int)) => (if i3 = 0 then (some true) else none))))))))))
theorem t54 : tfn E54 Tryd.f54 S54 = G54 := by kernel_rfl
theorem c54 : FT Tryd.prog 54 S54 G54 := FT_fn tb_ok (ens_cons a56 c56 (ens_cons a25 c25 ens_nil)) enw_nil mixed Tryd.func54 (by kernel_rfl) t54
theorem a54 : callable Tryd.prog 54 = true := by kernel_rfl

/- loop.example/g01083/spec.l36End -/
def S57 : Sig := ⟨[(true, (.pair (.int .i64) (.pair (.sl (.int .i64)) (.pair (.sl (.int .i64)) (.pair (.sl (.pair (.int .i64) (.sl (.int .i64)))) (.sl (.pair (.int .i64) (.sl (.int .i64))))))))), (true, (.pair (.int .i64) (.sl (.int .i64))))], [(false, 0, (.int .i64))]⟩
noncomputable def E57 : Env2 := ⟨⟨TB, [], [], ⟨23, [2, 3], 0⟩⟩, [], []⟩
noncomputable def G57 (x : ((Int × ((List Int) × ((List Int) × ((List (Int × (List Int))) × (List (Int × (List Int))))))) × (Int × (List Int)))) : Option Int := (bif (decide (((x.2.2.length : Nat) : Int) = (0 : Int))) then (some x.2.1) else (if (((0 : Int) ≤ (IntKind.wrap .i64 (((x.2.2.length : Nat) : Int) - (1 : Int)))) ∧ ((IntKind.wrap .i64 (((x.2.2.length : Nat) : Int) - (1 : Int))) < ((x.2.2.length : Nat) : Int))) then (if (((0 : Int) ≤ (x.2.2.getD ((IntKind.wrap .i64 (((x.2.2.length : Nat) : Int) - (1 : Int)))).toNat (0 : Int))) ∧ ((x.2.2.getD ((IntKind.wrap .i64 (((x.2.2.length : Nat) : Int) - (1 : Int)))).toNat (0 : Int)) < ((x.1.2.2.1.length : Nat) : Int))) then (some (x.1.2.2.1.getD ((x.2.2.getD ((IntKind.wrap .i64 (((x.2.2.length : Nat) : Int) - (1 : Int)))).toNat (0 : Int))).toNat (0 : Int))) else none) else none))
theorem t57 : tfn E57 Tryd.f57 S57 = G57 := by kernel_rfl
theorem c57 : FT Tryd.prog 57 S57 G57 := FT_fn tb_ok ens_nil enw_nil mixed Tryd.func57 (by kernel_rfl) t57
theorem a57 : callable Tryd.prog 57 = true := by kernel_rfl

/- loop.example/g01083/spec.IsSchema -/
def S40 : Sig := ⟨[(true, (.pair (.int .i64) (.pair (.sl (.int .i64)) (.pair (.sl (.int .i64)) (.pair (.sl (.pair (.int .i64) (.sl (.int .i64)))) (.sl (.pair (.int .i64) (.sl (.int .i64)))))))))], [(false, 0, .bool)]⟩
noncomputable def E40 : Env2 := ⟨⟨TB, [⟨56, S56, G56⟩, ⟨25, S25, G25⟩, ⟨54, S54, G54⟩, ⟨57, S57, G57⟩], [], ⟨99, [1], 0⟩⟩, [(4, [3], [])], []⟩
noncomputable def G40 (x : (Int × ((List Int) × ((List Int) × ((List (Int × (List Int))) × (List (Int × (List Int)))))))) : Option Bool := (Option.bind (G56 (x.1, ((0 : Int), (8 : Int)))) (fun (v0 : Bool) => (Option.bind (bif (!v0) then (some true) else (some (decide ((8 : Int) < ((x.2.1.length : Nat) : Int))))) (fun (v1 : Bool) => (Option.bind (bif v1 then (some true) else (some (!decide (((x.2.2.1.length : Nat) : Int) = ((x.2.1.length : Nat) : Int))))) (fun (v2 : Bool) => (Option.bind (bif v2 then (some true) else (Option.bind (G25 (x.1, x.2.1)) (fun (v3 : Bool) => (some (!v3))))) (fun (v3 : Bool) => (Option.bind (bif v3 then (some true) else (Option.bind (G25 (x.1, x.2.2.1)) (fun (v4 : Bool) => (some (!v4))))) (fun (v4 : Bool) => (Option.bind (bif v4 then (some true) else (some (decide ((8 : Int) < ((x.2.2.2.1.length : Nat) : Int))))) (fun (v5 : Bool) => (Option.bind (bif v5 then (some true) else (some (!decide (((x.2.2.2.2.length : Nat) : Int) = ((x.2.2.2.1.length : Nat) : Int))))) (fun (v6 : Bool) => (bif v6 then (some false) else (Option.bind (tloop (fun (v7 : Int) => (bif (decide (v7 < ((x.2.2.2.1.length : Nat) : Int))) then (if (((0 : Int) ≤ v7) ∧ (v7 < ((x.2.2.2.1.length : Nat) : Int))) then (if (((0 : Int) ≤ v7) ∧ (v7 < ((x.2.2.2.2.length : Nat) : Int))) then (Option.bind (G54 ((x.1, (x.2.1, (x.2.2.1, (x.2.2.2.1, x.2.2.2.2)))), ((x.2.2.2.1.getD (v7).toNat ((0 : Int), ([] : (List Int)))).1, (x.2.2.2.1.getD (v7).toNat ((0 : Int), ([] : (List Int)))).2))) (fun (v8 : Bool) => (Option.bind (bif (!v8) then (some true) else (Option.bind (G54 ((x.1, (x.2.1, (x.2.2.1, (x.2.2.2.1, x.2.2.2.2)))), ((x.2.2.2.2.getD (v7).toNat ((0 : Int), ([] : (List Int)))).1, (x.2.2.2.2.getD (v7).toNat ((0 : Int), ([] : (List Int)))).2))) (fun (v9 : Bool) => (some (!v9))))) (fun (v9 : Bool) => (Option.bind (bif v9 then (some true) else (some (!decide ((x.2.2.2.1.getD (v7).toNat ((0 : Int), ([] : (List Int)))).1 = (x.2.2.2.2.getD (v7).toNat ((0 : Int), ([] : (List Int)))).1)))) (fun (v10 : Bool) => (Option.bind (bif v10 then (some true) else (Option.bind (G57 ((x.1, (x.2.1, (x.2.2.1, (x.2.2.2.1, x.2.2.2.2)))), ((x.2.2.2.1.getD (v7).toNat ((0 : Int), ([] : (List Int)))).1, (x.2.2.2.1.getD (v7).toNat ((0 : Int), ([] : (List Int)))).2))) (fun (v11 : Int) => (Option.bind (G57 ((x.1, (x.2.1, (x.2.2.1, (x.2.2.2.1, x.2.2.2.2)))), ((x.2.2.2.2.getD (v7).toNat ((0 : Int), ([] : (List Int)))).1, (x.2.2.2.2.getD (v7).toNat ((0 : Int), ([] : (List Int)))).2))) (fun (v12 : Int) => (some (!decide (v11 = v12)))))))) (fun (v11 : Bool) => (bif v11 then (retM (some false)) else (some (LO.next (IntKind.wrap .i64 (v7 + (1 : Int)))))))))))))) else none) else none) else (some (LO.brk 0 v7)))) (0 : Int)) (LO.fin fun i7 (v7 : Int) => (if i7 = 0 then (some true) else none))))))))))))))))))
theorem t40 : tfn E40 Tryd.f40 S40 = G40 := by kernel_rfl
theorem c40 : FT Tryd.prog 40 S40 G40 := FT_fn tb_ok (ens_cons a56 c56 (ens_cons a25 c25 (ens_cons a54 c54 (ens_cons a57 c57 ens_nil)))) enw_nil mixed Tryd.func40 (by kernel_rfl) t40
theorem a40 : callable Tryd.prog 40 = true := by kernel_rfl

/- loop.example/g01083/spec.l36Text -/
def S33 : Sig := ⟨[(true, (.pair (.int .i64) (.sl (.int .i64))))], [(false, 0, .str)]⟩
noncomputable def E33 : Env2 := ⟨⟨TB, [⟨51, S51, G51⟩], [], ⟨31, [1], 0⟩⟩, [(3, [3, 4], [])], []⟩
noncomputable def G33 (x : (Int × (List Int))) : Option ByteArray := (Option.bind (G51 x.1) (fun (v0 : ByteArray) => (if (((ByteArray.mk #[64]).size + v0.size) ≤ 9223372036854775807) then (Option.bind (tloop (fun (v1 : (ByteArray × Int)) => (bif (decide (v1.2 < ((x.2.length : Nat) : Int))) then (if (((0 : Int) ≤ v1.2) ∧ (v1.2 < ((x.2.length : Nat) : Int))) then (if (((0 : Int) ≤ v1.2) ∧ (v1.2 < ((x.2.length : Nat) : Int))) then (if (((0 : Int) ≤ (x.2.getD (v1.2).toNat (0 : Int))) ∧ (((x.2.getD (v1.2).toNat (0 : Int)) ≤ (IntKind.wrap .i64 ((x.2.getD (v1.2).toNat (0 : Int)) + (1 : Int)))) ∧ ((IntKind.wrap .i64 ((x.2.getD (v1.2).toNat (0 : Int)) + (1 : Int))) ≤ (((ByteArray.mk #[97, 98, 99, 100, 101, 102, 103, 104]).size : Nat) : Int)))) then (if ((v1.1.size + ((ByteArray.mk #[97, 98, 99, 100, 101, 102, 103, 104]).extract ((x.2.getD (v1.2).toNat (0 : Int))).toNat ((IntKind.wrap .i64 ((x.2.getD (v1.2).toNat (0 : Int)) + (1 : Int)))).toNat).size) ≤ 9223372036854775807) then (some (LO.next ((v1.1 ++ ((ByteArray.mk #[97, 98, 99, 100, 101, 102, 103, 104]).extract ((x.2.getD (v1.2).toNat (0 : Int))).toNat ((IntKind.wrap .i64 ((x.2.getD (v1.2).toNat (0 : Int)) + (1 : Int)))).toNat)), (IntKind.wrap .i64 (v1.2 + (1 : Int)))))) else none) else none) else none) else none) else (some (LO.brk 0 (v1.1, v1.2))))) (((ByteArray.mk #[64]) ++ v0), (0 : Int))) (LO.fin fun i1 (v1 : (ByteArray × Int)) => (if i1 = 0 then (some v1.1) else none))) else none)))
theorem t33 : tfn E33 Tryd.f33 S33 = G33 := by kernel_rfl
theorem c33 : FT Tryd.prog 33 S33 G33 := FT_fn tb_ok (ens_cons a51 c51 ens_nil) enw_nil mixed Tryd.func33 (by kernel_rfl) t33
theorem a33 : callable Tryd.prog 33 = true := by kernel_rfl

/- loop.example/g01083/spec.l36Whole -/
def S41 : Sig := ⟨[(true, (.pair (.int .i64) (.pair (.sl (.int .i64)) (.pair (.sl (.int .i64)) (.pair (.sl (.pair (.int .i64) (.sl (.int .i64)))) (.sl (.pair (.int .i64) (.sl (.int .i64)))))))))], [(false, 0, .str)]⟩
noncomputable def E41 : Env2 := ⟨⟨TB, [⟨51, S51, G51⟩, ⟨33, S33, G33⟩], [], ⟨68, [1], 0⟩⟩, [(3, [3, 5], []), (7, [4, 6], [])], []⟩
noncomputable def G41 (x : (Int × ((List Int) × ((List Int) × ((List (Int × (List Int))) × (List (Int × (List Int)))))))) : Option ByteArray := (Option.bind (tloop (fun (v0 : (ByteArray × Int)) => (bif (decide (v0.2 < ((x.2.1.length : Nat) : Int))) then (if ((v0.1.size + (ByteArray.mk #[32]).size) ≤ 9223372036854775807) then (if (((0 : Int) ≤ v0.2) ∧ (v0.2 < ((x.2.1.length : Nat) : Int))) then (Option.bind (G51 (x.2.1.getD (v0.2).toNat (0 : Int))) (fun (v1 : ByteArray) => (if (((v0.1 ++ (ByteArray.mk #[32])).size + v1.size) ≤ 9223372036854775807) then (if ((((v0.1 ++ (ByteArray.mk #[32])) ++ v1).size + (ByteArray.mk #[62]).size) ≤ 9223372036854775807) then (if (((0 : Int) ≤ v0.2) ∧ (v0.2 < ((x.2.2.1.length : Nat) : Int))) then (Option.bind (G51 (x.2.2.1.getD (v0.2).toNat (0 : Int))) (fun (v2 : ByteArray) => (if (((((v0.1 ++ (ByteArray.mk #[32])) ++ v1) ++ (ByteArray.mk #[62])).size + v2.size) ≤ 9223372036854775807) then (some (LO.next (((((v0.1 ++ (ByteArray.mk #[32])) ++ v1) ++ (ByteArray.mk #[62])) ++ v2), (IntKind.wrap .i64 (v0.2 + (1 : Int)))))) else none))) else none) else none) else none))) else none) else none) else (some (LO.brk 0 (v0.1, v0.2))))) ((ByteArray.mk #[]), (0 : Int))) (LO.fin fun i0 (v0 : (ByteArray × Int)) => (if i0 = 0 then (Option.bind (tloop (fun (v1 : (ByteArray × Int)) => (bif (decide (v1.2 < ((x.2.2.2.1.length : Nat) : Int))) then (if ((v1.1.size + (ByteArray.mk #[32]).size) ≤ 9223372036854775807) then (if (((0 : Int) ≤ v1.2) ∧ (v1.2 < ((x.2.2.2.1.length : Nat) : Int))) then (Option.bind (G33 ((x.2.2.2.1.getD (v1.2).toNat ((0 : Int), ([] : (List Int)))).1, (x.2.2.2.1.getD (v1.2).toNat ((0 : Int), ([] : (List Int)))).2)) (fun (v2 : ByteArray) => (if (((v1.1 ++ (ByteArray.mk #[32])).size + v2.size) ≤ 9223372036854775807) then (if ((((v1.1 ++ (ByteArray.mk #[32])) ++ v2).size + (ByteArray.mk #[61]).size) ≤ 9223372036854775807) then (if (((0 : Int) ≤ v1.2) ∧ (v1.2 < ((x.2.2.2.2.length : Nat) : Int))) then (Option.bind (G33 ((x.2.2.2.2.getD (v1.2).toNat ((0 : Int), ([] : (List Int)))).1, (x.2.2.2.2.getD (v1.2).toNat ((0 : Int), ([] : (List Int)))).2)) (fun (v3 : ByteArray) => (if (((((v1.1 ++ (ByteArray.mk #[32])) ++ v2) ++ (ByteArray.mk #[61])).size + v3.size) ≤ 9223372036854775807) then (some (LO.next (((((v1.1 ++ (ByteArray.mk #[32])) ++ v2) ++ (ByteArray.mk #[61])) ++ v3), (IntKind.wrap .i64 (v1.2 + (1 : Int)))))) else none))) else none) else none) else none))) else none) else none) else (some (LO.brk 2 (v1.1, v1.2))))) ((ByteArray.mk #[]), (0 : Int))) (LO.fin fun i1 (v1 : (ByteArray × Int)) => (if i1 = 2 then (bif (eqS v0.1 (ByteArray.mk #[])) then (bif (eqS v1.1 (ByteArray.mk #[])) then (Option.bind (G51 x.1) (fun (v2 : ByteArray) => (if ((v2.size + (ByteArray.mk #[32, 124]).size) ≤ 9223372036854775807) then (if (((v2 ++ (ByteArray.mk #[32, 124])).size + (ByteArray.mk #[32, 45]).size) ≤ 9223372036854775807) then (if ((((v2 ++ (ByteArray.mk #[32, 124])) ++ (ByteArray.mk #[32, 45])).size + (ByteArray.mk #[32, 124]).size) ≤ 9223372036854775807) then (if (((((v2 ++ (ByteArray.mk #[32, 124])) ++ (ByteArray.mk #[32, 45])) ++ (ByteArray.mk #[32, 124])).size + (ByteArray.mk #[32, 45]).size) ≤ 9223372036854775807) then (some ((((v2 ++ (ByteArray.mk #[32, 124])) ++ (ByteArray.mk #[32, 45])) ++ (ByteArray.mk #[32, 124])) ++ (ByteArray.mk #[32, 45]))) else none) else none) else none) else none))) else (Option.bind (G51 x.1) (fun (v2 : ByteArray) => (if ((v2.size + (ByteArray.mk #[32, 124]).size) ≤ 9223372036854775807) then (if (((v2 ++ (ByteArray.mk #[32, 124])).size + (ByteArray.mk #[32, 45]).size) ≤ 9223372036854775807) then (if ((((v2 ++ (ByteArray.mk #[32, 124])) ++ (ByteArray.mk #[32, 45])).size + (ByteArray.mk #[32, 124]).size) ≤ 9223372036854775807) then (if (((((v2 ++ (ByteArray.mk #[32, 124])) ++ (ByteArray.mk #[32, 45])) ++ (ByteArray.mk #[32, 124])).size + v1.1.size) ≤ 9223372036854775807) then (some ((((v2 ++ (ByteArray.mk #[32, 124])) ++ (ByteArray.mk #[32, 45])) ++ (ByteArray.mk #[32, 124])) ++ v1.1)) else none) else none) else none) else none)))) else (bif (eqS v1.1 (ByteArray.mk #[])) then (Option.bind (G51 x.1) (fun (v2 : ByteArray) => (if ((v2.size + (ByteArray.mk #[32, 124]).size) ≤ 9223372036854775807) then (if (((v2 ++ (ByteArray.mk #[32, 124])).size + v0.1.size) ≤ 9223372036854775807) then (if ((((v2 ++ (ByteArray.mk #[32, 124])) ++ v0.1).size + (ByteArray.mk #[32, 124]).size) ≤ 9223372036854775807) then (if (((((v2 ++ (ByteArray.mk #[32, 124])) ++ v0.1) ++ (ByteArray.mk #[32, 124])).size + (ByteArray.mk #[32, 45]).size) ≤ 9223372036854775807) then (some ((((v2 ++ (ByteArray.mk #[32, 124])) ++ v0.1) ++ (ByteArray.mk #[32, 124])) ++ (ByteArray.mk #[32, 45]))) else none) else none) else none) else none))) else (Option.bind (G51 x.1) (fun (v2 : ByteArray) => (if ((v2.size + (ByteArray.mk #[32, 124]).size) ≤ 9223372036854775807) then (if (((v2 ++ (ByteArray.mk #[32, 124])).size + v0.1.size) ≤ 9223372036854775807) then (if ((((v2 ++ (ByteArray.mk #[32, 124])) ++ v0.1).size + (ByteArray.mk #[32, 124]).size) ≤ 9223372036854775807) then (if (((((v2 ++ (ByteArray.mk #[32, 124])) ++ v0.1) ++ (ByteArray.mk #[32, 124])).size + v1.1.size) ≤ 9223372036854775807) then (some ((((v2 ++ (ByteArray.mk #[32, 124])) ++ v0.1) ++ (ByteArray.mk #[32, 124])) ++ v1.1)) else none) else none) else none) else none))))) else none))) else none)))
theorem t41 : tfn E41 Tryd.f41 S41 = G41 := by kernel_rfl
theorem c41 : FT Tryd.prog 41 S41 G41 := FT_fn tb_ok (ens_cons a51 c51 (ens_cons a33 c33 ens_nil)) enw_nil mixed Tryd.func41 (by kernel_rfl) t41
theorem a41 : callable Tryd.prog 41 = true := by kernel_rfl

/- loop.example/g01083/spec.SchemaText -/
def S18 : Sig := ⟨[(true, (.pair (.int .i64) (.pair (.sl (.int .i64)) (.pair (.sl (.int .i64)) (.pair (.sl (.pair (.int .i64) (.sl (.int .i64)))) (.sl (.pair (.int .i64) (.sl (.int .i64)))))))))], [(false, 0, .str), (false, 0, (.int .i64))]⟩
noncomputable def E18 : Env2 := ⟨⟨TB, [⟨40, S40, G40⟩, ⟨41, S41, G41⟩], [], ⟨9, [1], 0⟩⟩, [], []⟩
noncomputable def G18 (x : (Int × ((List Int) × ((List Int) × ((List (Int × (List Int))) × (List (Int × (List Int)))))))) : Option (ByteArray × Int) := (Option.bind (G40 (x.1, (x.2.1, (x.2.2.1, (x.2.2.2.1, x.2.2.2.2))))) (fun (v0 : Bool) => (bif (!v0) then (some ((ByteArray.mk #[]), (1 : Int))) else (Option.bind (G41 (x.1, (x.2.1, (x.2.2.1, (x.2.2.2.1, x.2.2.2.2))))) (fun (v1 : ByteArray) => (some (v1, (0 : Int))))))))
theorem t18 : tfn E18 Tryd.f18 S18 = G18 := by kernel_rfl
theorem c18 : FT Tryd.prog 18 S18 G18 := FT_fn tb_ok (ens_cons a40 c40 (ens_cons a41 c41 ens_nil)) enw_nil mixed Tryd.func18 (by kernel_rfl) t18
theorem a18 : callable Tryd.prog 18 = true := by kernel_rfl

/- loop.example/g01083/impl.inRange -/
def S52 : Sig := ⟨[(false, (.int .i64)), (false, (.int .i64)), (false, (.int .i64))], [(false, 0, .bool)]⟩
noncomputable def E52 : Env2 := ⟨⟨TB, [], [], ⟨15, [], 0⟩⟩, [], []⟩
noncomputable def G52 (x : (Int × (Int × Int))) : Option Bool := (Option.bind (bif (decide (x.2.1 ≤ x.1)) then (some (decide (x.1 ≤ x.2.2))) else (some false)) (fun (v0 : Bool) => (some v0)))
theorem t52 : tfn E52 Tryd.f52 S52 = G52 := by kernel_rfl
theorem c52 : FT Tryd.prog 52 S52 G52 := FT_fn tb_ok ens_nil enw_nil mixed Tryd.func52 (by kernel_rfl) t52
theorem a52 : callable Tryd.prog 52 = true := by kernel_rfl

/- loop.example/g01083/impl.within -/
def S28 : Sig := ⟨[(false, (.sl (.int .i64))), (false, (.int .i64))], [(false, 0, .bool)]⟩
noncomputable def E28 : Env2 := ⟨⟨TB, [⟨52, S52, G52⟩], [], ⟨19, [], 0⟩⟩, [(2, [9], [])], []⟩
noncomputable def G28 (x : ((List Int) × Int)) : Option Bool := (Option.bind (tloop (fun (v0 : Int) => (bif (decide (v0 < ((x.1.length : Nat) : Int))) then (if (((0 : Int) ≤ v0) ∧ (v0 < ((x.1.length : Nat) : Int))) then (Option.bind (G52 ((x.1.getD (v0).toNat (0 : Int)), ((0 : Int), (IntKind.wrap .i64 (x.2 - (1 : Int)))))) (fun (v1 : Bool) => (bif (!v1) then (retM (some false)) else (some (LO.next (IntKind.wrap .i64 (v0 + (1 : Int)))))))) else none) else (some (LO.brk 0 v0)))) (0 : Int)) (LO.fin fun i0 (v0 : Int) => (if i0 = 0 then (some true) else none)))
theorem t28 : tfn E28 Tryd.f28 S28 = G28 := by kernel_rfl
theorem c28 : FT Tryd.prog 28 S28 G28 := FT_fn tb_ok (ens_cons a52 c52 ens_nil) enw_nil mixed Tryd.func28 (by kernel_rfl) t28
theorem a28 : callable Tryd.prog 28 = true := by kernel_rfl

/- (*loop.example/g01083/impl.Schema).follow -/
def S71 : Sig := ⟨[(false, (.ptr (.pair (.int .i64) (.pair (.sl (.int .i64)) (.pair (.sl (.int .i64)) (.pair (.sl (.pair (.int .i64) (.sl (.int .i64)))) (.sl (.pair (.int .i64) (.sl (.int .i64)))))))))), (false, (.int .i64)), (false, (.sl (.int .i64)))], [(false, 0, (.int .i64)), (false, 0, .bool)]⟩
noncomputable def E71 : Env2 := ⟨⟨TB, [⟨52, S52, G52⟩], [], ⟨45, [], 0⟩⟩, [(2, [1, 12], [])], []⟩
noncomputable def G71 (x : ((Int × ((List Int) × ((List Int) × ((List (Int × (List Int))) × (List (Int × (List Int))))))) × (Int × (List Int)))) : Option (Int × Bool) := (Option.bind (tloop (fun (v0 : (Int × Int)) => (bif (decide (v0.2 < ((x.2.2.length : Nat) : Int))) then (if (((0 : Int) ≤ v0.2) ∧ (v0.2 < ((x.2.2.length : Nat) : Int))) then (Option.bind (G52 ((x.2.2.getD (v0.2).toNat (0 : Int)), ((0 : Int), (IntKind.wrap .i64 (((x.1.2.1.length : Nat) : Int) - (1 : Int)))))) (fun (v1 : Bool) => (Option.bind (bif (!v1) then (some true) else (if (((0 : Int) ≤ (x.2.2.getD (v0.2).toNat (0 : Int))) ∧ ((x.2.2.getD (v0.2).toNat (0 : Int)) < ((x.1.2.1.length : Nat) : Int))) then (some (!decide ((x.1.2.1.getD ((x.2.2.getD (v0.2).toNat (0 : Int))).toNat (0 : Int)) = v0.1))) else none)) (fun (v2 : Bool) => (bif v2 then (retM (some ((0 : Int), false))) else (if (((0 : Int) ≤ (x.2.2.getD (v0.2).toNat (0 : Int))) ∧ ((x.2.2.getD (v0.2).toNat (0 : Int)) < ((x.1.2.2.1.length : Nat) : Int))) then (some (LO.next ((x.1.2.2.1.getD ((x.2.2.getD (v0.2).toNat (0 : Int))).toNat (0 : Int)), (IntKind.wrap .i64 (v0.2 + (1 : Int)))))) else none)))))) else none) else (some (LO.brk 0 (v0.1, v0.2))))) (x.2.1, (0 : Int))) (LO.fin fun i0 (v0 : (Int × Int)) => (if i0 = 0 then (some (v0.1, true)) else none)))
theorem t71 : tfn E71 Tryd.f71 S71 = G71 := by kernel_rfl
theorem c71 : FT Tryd.prog 71 S71 G71 := FT_fn tb_ok (ens_cons a52 c52 ens_nil) enw_nil mixed Tryd.func71 (by kernel_rfl) t71
theorem a71 : callable Tryd.prog 71 = true := by kernel_rfl

/- (*loop.example/g01083/impl.Schema).end -/
def S55 : Sig := ⟨[(false, (.ptr (.pair (.int .i64) (.pair (.sl (.int .i64)) (.pair (.sl (.int .i64)) (.pair (.sl (.pair (.int .i64) (.sl (.int .i64)))) (.sl (.pair (.int .i64) (.sl (.int .i64)))))))))), (true, (.pair (.int .i64) (.sl (.int .i64))))], [(false, 0, (.int .i64)), (false, 0, .bool)]⟩
noncomputable def E55 : Env2 := ⟨⟨TB, [⟨52, S52, G52⟩, ⟨71, S71, G71⟩], [], ⟨29, [3], 0⟩⟩, [], []⟩
noncomputable def G55 (x : ((Int × ((List Int) × ((List Int) × ((List (Int × (List Int))) × (List (Int × (List Int))))))) × (Int × (List Int)))) : Option (Int × Bool) := (Option.bind (G52 (x.2.1, ((0 : Int), (IntKind.wrap .i64 (x.1.1 - (1 : Int)))))) (fun (v0 : Bool) => (Option.bind (bif (!v0) then (some true) else (some (decide ((6 : Int) < ((x.2.2.length : Nat) : Int))))) (fun (v1 : Bool) => (bif v1 then (some ((0 : Int), false)) else (Option.bind (G71 (x.1, (x.2.1, x.2.2))) (fun (v2 : (Int × Bool)) => (some (v2.1, v2.2)))))))))
theorem t55 : tfn E55 Tryd.f55 S55 = G55 := by kernel_rfl
theorem c55 : FT Tryd.prog 55 S55 G55 := FT_fn tb_ok (ens_cons a52 c52 (ens_cons a71 c71 ens_nil)) enw_nil mixed Tryd.func55 (by kernel_rfl) t55
theorem a55 : callable Tryd.prog 55 = true := by kernel_rfl

/- (*loop.example/g01083/impl.Schema).isSchema -/
def S42 : Sig := ⟨[(false, (.ptr (.pair (.int .i64) (.pair (.sl (.int .i64)) (.pair (.sl (.int .i64)) (.pair (.sl (.pair (.int .i64) (.sl (.int .i64)))) (.sl (.pair (.int .i64) (.sl (.int .i64))))))))))], [(false, 0, .bool)]⟩
noncomputable def E42 : Env2 := ⟨⟨TB, [⟨52, S52, G52⟩, ⟨28, S28, G28⟩, ⟨55, S55, G55⟩], [], ⟨128, [], 0⟩⟩, [(6, [85], [])], []⟩
noncomputable def G42 (x : (Int × ((List Int) × ((List Int) × ((List (Int × (List Int))) × (List (Int × (List Int)))))))) : Option Bool := (Option.bind (G52 (x.1, ((0 : Int), (8 : Int)))) (fun (v0 : Bool) => (Option.bind (bif (!v0) then (some true) else (some (decide ((8 : Int) < ((x.2.1.length : Nat) : Int))))) (fun (v1 : Bool) => (Option.bind (bif v1 then (some true) else (some (!decide (((x.2.2.1.length : Nat) : Int) = ((x.2.1.length : Nat) : Int))))) (fun (v2 : Bool) => (Option.bind (bif v2 then (some true) else (Option.bind (G28 (x.2.1, x.1)) (fun (v3 : Bool) => (some (!v3))))) (fun (v3 : Bool) => (Option.bind (bif v3 then (some true) else (Option.bind (G28 (x.2.2.1, x.1)) (fun (v4 : Bool) => (some (!v4))))) (fun (v4 : Bool) => (bif v4 then (some false) else (Option.bind (bif (decide ((8 : Int) < ((x.2.2.2.1.length : Nat) : Int))) then (some true) else (some (!decide (((x.2.2.2.2.length : Nat) : Int) = ((x.2.2.2.1.length : Nat) : Int))))) (fun (v5 : Bool) => (bif v5 then (some false) else (Option.bind (tloop (fun (v6 : Int) => (bif (decide (v6 < ((x.2.2.2.1.length : Nat) : Int))) then (if (((0 : Int) ≤ v6) ∧ (v6 < ((x.2.2.2.1.length : Nat) : Int))) then (if (((0 : Int) ≤ v6) ∧ (v6 < ((x.2.2.2.2.length : Nat) : Int))) then (Option.bind (G55 (x, ((x.2.2.2.1.getD (v6).toNat ((0 : Int), ([] : (List Int)))).1, (x.2.2.2.1.getD (v6).toNat ((0 : Int), ([] : (List Int)))).2))) (fun (v7 : (Int × Bool)) => (Option.bind (G55 (x, ((x.2.2.2.2.getD (v6).toNat ((0 : Int), ([] : (List Int)))).1, (x.2.2.2.2.getD (v6).toNat ((0 : Int), ([] : (List Int)))).2))) (fun (v8 : (Int × Bool)) => (Option.bind (bif (!v7.2) then (some true) else (some (!v8.2))) (fun (v9 : Bool) => (Option.bind (bif v9 then (some true) else (some (!decide ((x.2.2.2.1.getD (v6).toNat ((0 : Int), ([] : (List Int)))).1 = (x.2.2.2.2.getD (v6).toNat ((0 : Int), ([] : (List Int)))).1)))) (fun (v10 : Bool) => (Option.bind (bif v10 then (some true) else (some (!decide (v7.1 = v8.1)))) (fun (v11 : Bool) => (bif v11 then (retM (some false)) else (some (LO.next (IntKind.wrap .i64 (v6 + (1 : Int)))))))))))))))) else none) else none) else (some (LO.brk 0 v6)))) (0 : Int)) (LO.fin fun i6 (v6 : Int) => (if i6 = 0 then (some true) else none)))))))))))))))))
theorem t42 : tfn E42 Tryd.f42 S42 = G42 := by kernel_rfl
theorem c42 : FT Tryd.prog 42 S42 G42 := FT_fn tb_ok (ens_cons a52 c52 (ens_cons a28 c28 (ens_cons a55 c55 ens_nil))) enw_nil mixed Tryd.func42 (by kernel_rfl) t42
theorem a42 : callable Tryd.prog 42 = true := by kernel_rfl

/- strconv.FormatInt -/
def S53 : Sig := ⟨[(false, (.int .i64)), (false, (.int .i64))], [(false, 0, .str)]⟩
noncomputable def E53 : Env2 := ⟨⟨TB, [⟨70, S70, G70⟩], [], ⟨8, [], 0⟩⟩, [], []⟩
noncomputable def G53 (x : (Int × Int)) : Option ByteArray := (Option.bind (G70 (x.1, x.2)) (fun (v0 : ByteArray) => (some v0)))
theorem t53 : tfn E53 Tryd.f53 S53 = G53 := by kernel_rfl
theorem c53 : FT Tryd.prog 53 S53 G53 := FT_fn tb_ok (ens_cons a70 c70 ens_nil) enw_nil mixed Tryd.func53 (by kernel_rfl) t53
theorem a53 : callable Tryd.prog 53 = true := by kernel_rfl

/- (loop.example/g01083/impl.Path).text -/
def S37 : Sig := ⟨[(true, (.pair (.int .i64) (.sl (.int .i64))))], [(false, 0, .str)]⟩
noncomputable def E37 : Env2 := ⟨⟨TB, [⟨53, S53, G53⟩], [], ⟨27, [1], 0⟩⟩, [(3, [3, 14], [0])], []⟩
noncomputable def G37 (x : (Int × (List Int))) : Option ByteArray := (Option.bind (G53 (x.1, (10 : Int))) (fun (v0 : ByteArray) => (if (((ByteArray.mk #[64]).size + v0.size) ≤ 9223372036854775807) then (if (((ByteArray.mk #[64]) ++ v0).size ≤ 9223372036854775807) then (Option.bind (tloop (fun (v1 : (Int × (List Int))) => (bif (decide (v1.1 < ((x.2.length : Nat) : Int))) then (if (((0 : Int) ≤ v1.1) ∧ (v1.1 < ((x.2.length : Nat) : Int))) then (if ((v1.2.length + ((IntKind.wrap .u8 (IntKind.wrap .i64 ((97 : Int) + (x.2.getD (v1.1).toNat (0 : Int))))) :: ([] : (List Int))).length) ≤ 140737488355328) then (some (LO.next ((IntKind.wrap .i64 (v1.1 + (1 : Int))), (v1.2 ++ ((IntKind.wrap .u8 (IntKind.wrap .i64 ((97 : Int) + (x.2.getD (v1.1).toNat (0 : Int))))) :: ([] : (List Int))))))) else none) else none) else (some (LO.brk 0 (v1.1, v1.2))))) ((0 : Int), (Go.Ve.strNums ((ByteArray.mk #[64]) ++ v0)))) (LO.fin fun i1 (v1 : (Int × (List Int))) => (if i1 = 0 then (some (Go.strOfNums v1.2)) else none))) else none) else none)))
theorem t37 : tfn E37 Tryd.f37 S37 = G37 := by kernel_rfl
theorem c37 : FT Tryd.prog 37 S37 G37 := FT_fn tb_ok (ens_cons a53 c53 ens_nil) enw_nil mixed Tryd.func37 (by kernel_rfl) t37
theorem a37 : callable Tryd.prog 37 = true := by kernel_rfl

/- loop.example/g01083/impl.part -/
def S59 : Sig := ⟨[(false, (.sl .str))], [(false, 0, .str)]⟩
noncomputable def E59 : Env2 := ⟨⟨TB, [⟨58, S58, G58⟩], [], ⟨8, [], 0⟩⟩, [], []⟩
noncomputable def G59 (x : (List ByteArray)) : Option ByteArray := (bif (decide (((x.length : Nat) : Int) = (0 : Int))) then (some (ByteArray.mk #[45])) else (Option.bind (G58 (x, (ByteArray.mk #[32]))) (fun (v0 : ByteArray) => (some v0))))
theorem t59 : tfn E59 Tryd.f59 S59 = G59 := by kernel_rfl
theorem c59 : FT Tryd.prog 59 S59 G59 := FT_fn tb_ok (ens_cons a58 c58 ens_nil) enw_nil mixed Tryd.func59 (by kernel_rfl) t59
theorem a59 : callable Tryd.prog 59 = true := by kernel_rfl

/- (*loop.example/g01083/impl.Schema).text -/
def S43 : Sig := ⟨[(false, (.ptr (.pair (.int .i64) (.pair (.sl (.int .i64)) (.pair (.sl (.int .i64)) (.pair (.sl (.pair (.int .i64) (.sl (.int .i64)))) (.sl (.pair (.int .i64) (.sl (.int .i64))))))))))], [(false, 0, .str)]⟩
noncomputable def E43 : Env2 := ⟨⟨TB, [⟨53, S53, G53⟩, ⟨37, S37, G37⟩, ⟨59, S59, G59⟩, ⟨58, S58, G58⟩], [], ⟨80, [], 0⟩⟩, [(3, [3, 4, 14], [0]), (8, [3, 4, 44], [1])], []⟩
noncomputable def G43 (x : (Int × ((List Int) × ((List Int) × ((List (Int × (List Int))) × (List (Int × (List Int)))))))) : Option ByteArray := (Option.bind (tloop (fun (v0 : (Int × (List ByteArray))) => (bif (decide (v0.1 < ((x.2.1.length : Nat) : Int))) then (if (((0 : Int) ≤ v0.1) ∧ (v0.1 < ((x.2.1.length : Nat) : Int))) then (Option.bind (G53 ((x.2.1.getD (v0.1).toNat (0 : Int)), (10 : Int))) (fun (v1 : ByteArray) => (if ((v1.size + (ByteArray.mk #[62]).size) ≤ 9223372036854775807) then (if (((0 : Int) ≤ v0.1) ∧ (v0.1 < ((x.2.2.1.length : Nat) : Int))) then (Option.bind (G53 ((x.2.2.1.getD (v0.1).toNat (0 : Int)), (10 : Int))) (fun (v2 : ByteArray) => (if (((v1 ++ (ByteArray.mk #[62])).size + v2.size) ≤ 9223372036854775807) then (if ((v0.2.length + (((v1 ++ (ByteArray.mk #[62])) ++ v2) :: ([] : (List ByteArray))).length) ≤ 8796093022208) then (some (LO.next ((IntKind.wrap .i64 (v0.1 + (1 : Int))), (v0.2 ++ (((v1 ++ (ByteArray.mk #[62])) ++ v2) :: ([] : (List ByteArray))))))) else none) else none))) else none) else none))) else none) else (some (LO.brk 0 (v0.1, v0.2))))) ((0 : Int), ([] : (List ByteArray)))) (LO.fin fun i0 (v0 : (Int × (List ByteArray))) => (if i0 = 0 then (Option.bind (tloop (fun (v1 : (Int × (List ByteArray))) => (bif (decide (v1.1 < ((x.2.2.2.1.length : Nat) : Int))) then (if (((0 : Int) ≤ v1.1) ∧ (v1.1 < ((x.2.2.2.1.length : Nat) : Int))) then (Option.bind (G37 ((x.2.2.2.1.getD (v1.1).toNat ((0 : Int), ([] : (List Int)))).1, (x.2.2.2.1.getD (v1.1).toNat ((0 : Int), ([] : (List Int)))).2)) (fun (v2 : ByteArray) => (if ((v2.size + (ByteArray.mk #[61]).size) ≤ 9223372036854775807) then (if (((0 : Int) ≤ v1.1) ∧ (v1.1 < ((x.2.2.2.2.length : Nat) : Int))) then (Option.bind (G37 ((x.2.2.2.2.getD (v1.1).toNat ((0 : Int), ([] : (List Int)))).1, (x.2.2.2.2.getD (v1.1).toNat ((0 : Int), ([] : (List Int)))).2)) (fun (v3 : ByteArray) => (if (((v2 ++ (ByteArray.mk #[61])).size + v3.size) ≤ 9223372036854775807) then (if ((v1.2.length + (((v2 ++ (ByteArray.mk #[61])) ++ v3) :: ([] : (List ByteArray))).length) ≤ 8796093022208) then (some (LO.next ((IntKind.wrap .i64 (v1.1 + (1 : Int))), (v1.2 ++ (((v2 ++ (ByteArray.mk #[61])) ++ v3) :: ([] : (List ByteArray))))))) else none) else none))) else none) else none))) else none) else (some (LO.brk 2 (v1.1, v1.2))))) ((0 : Int), ([] : (List ByteArray)))) (LO.fin fun i1 (v1 : (Int × (List ByteArray))) => (if i1 = 2 then (Option.bind (G53 (x.1, (10 : Int))) (fun (v2 : ByteArray) => (Option.bind (G59 v0.2) (fun (v3 : ByteArray) => (Option.bind (G59 v1.2) (fun (v4 : ByteArray) => (Option.bind (G58 ((v2 :: (v3 :: (v4 :: ([] : (List ByteArray))))), (ByteArray.mk #[32, 124, 32]))) (fun (v5 : ByteArray) => (some v5))))))))) else none))) else none)))
theorem t43 : tfn E43 Tryd.f43 S43 = G43 := by kernel_rfl
theorem c43 : FT Tryd.prog 43 S43 G43 := FT_fn tb_ok (ens_cons a53 c53 (ens_cons a37 c37 (ens_cons a59 c59 (ens_cons a58 c58 ens_nil)))) enw_nil mixed Tryd.func43 (by kernel_rfl) t43
theorem a43 : callable Tryd.prog 43 = true := by kernel_rfl

/- loop.example/g01083/impl.SchemaText -/
def S19 : Sig := ⟨[(true, (.pair (.int .i64) (.pair (.sl (.int .i64)) (.pair (.sl (.int .i64)) (.pair (.sl (.pair (.int .i64) (.sl (.int .i64)))) (.sl (.pair (.int .i64) (.sl (.int .i64)))))))))], [(false, 0, .str), (false, 0, (.int .i64))]⟩
noncomputable def E19 : Env2 := ⟨⟨TB, [⟨42, S42, G42⟩, ⟨43, S43, G43⟩], [], ⟨7, [1], 0⟩⟩, [], []⟩
noncomputable def G19 (x : (Int × ((List Int) × ((List Int) × ((List (Int × (List Int))) × (List (Int × (List Int)))))))) : Option (ByteArray × Int) := (Option.bind (G42 (x.1, (x.2.1, (x.2.2.1, (x.2.2.2.1, x.2.2.2.2))))) (fun (v0 : Bool) => (bif (!v0) then (some ((ByteArray.mk #[]), (1 : Int))) else (Option.bind (G43 (x.1, (x.2.1, (x.2.2.1, (x.2.2.2.1, x.2.2.2.2))))) (fun (v1 : ByteArray) => (some (v1, (0 : Int))))))))
theorem t19 : tfn E19 Tryd.f19 S19 = G19 := by kernel_rfl
theorem c19 : FT Tryd.prog 19 S19 G19 := FT_fn tb_ok (ens_cons a42 c42 (ens_cons a43 c43 ens_nil)) enw_nil mixed Tryd.func19 (by kernel_rfl) t19
theorem a19 : callable Tryd.prog 19 = true := by kernel_rfl

/- loop.example/g01083/laws.eqInt64S -/
def S38 : Sig := ⟨[(false, (.sl (.int .i64))), (false, (.sl (.int .i64)))], [(false, 0, .bool)]⟩
noncomputable def E38 : Env2 := ⟨⟨TB, [], [], ⟨26, [], 0⟩⟩, [(4, [5], [])], []⟩
noncomputable def G38 (x : ((List Int) × (List Int))) : Option Bool := (bif (!decide (((x.1.length : Nat) : Int) = ((x.2.length : Nat) : Int))) then (some false) else (Option.bind (tloop (fun (v0 : Int) => (bif (decide (v0 < ((x.1.length : Nat) : Int))) then (if (((0 : Int) ≤ v0) ∧ (v0 < ((x.1.length : Nat) : Int))) then (if (((0 : Int) ≤ v0) ∧ (v0 < ((x.2.length : Nat) : Int))) then (bif (!decide ((x.1.getD (v0).toNat (0 : Int)) = (x.2.getD (v0).toNat (0 : Int)))) then (retM (some false)) else (some (LO.next (IntKind.wrap .i64 (v0 + (1 : Int)))))) else none) else none) else (some (LO.brk 0 v0)))) (0 : Int)) (LO.fin fun i0 (v0 : Int) => (if i0 = 0 then (some true) else none))))
theorem t38 : tfn E38 Tryd.f38 S38 = G38 := by kernel_rfl
theorem c38 : FT Tryd.prog 38 S38 G38 := FT_fn tb_ok ens_nil enw_nil mixed Tryd.func38 (by kernel_rfl) t38
theorem a38 : callable Tryd.prog 38 = true := by kernel_rfl

/- loop.example/g01083/laws.eqPath -/
def S17 : Sig := ⟨[(true, (.pair (.int .i64) (.sl (.int .i64)))), (true, (.pair (.int .i64) (.sl (.int .i64))))], [(false, 0, .bool)]⟩
noncomputable def E17 : Env2 := ⟨⟨TB, [⟨38, S38, G38⟩], [], ⟨16, [2, 3], 0⟩⟩, [], []⟩
noncomputable def G17 (x : ((Int × (List Int)) × (Int × (List Int)))) : Option Bool := (bif (!decide (x.1.1 = x.2.1)) then (some false) else (Option.bind (G38 (x.1.2, x.2.2)) (fun (v0 : Bool) => (bif (!v0) then (some false) else (some true)))))
theorem t17 : tfn E17 Tryd.f17 S17 = G17 := by kernel_rfl
theorem c17 : FT Tryd.prog 17 S17 G17 := FT_fn tb_ok (ens_cons a38 c38 ens_nil) enw_nil mixed Tryd.func17 (by kernel_rfl) t17
theorem a17 : callable Tryd.prog 17 = true := by kernel_rfl

/- loop.example/g01083/laws.eqPathS -/
def S39 : Sig := ⟨[(false, (.sl (.pair (.int .i64) (.sl (.int .i64))))), (false, (.sl (.pair (.int .i64) (.sl (.int .i64)))))], [(false, 0, .bool)]⟩
noncomputable def E39 : Env2 := ⟨⟨TB, [⟨17, S17, G17⟩], [], ⟨27, [], 0⟩⟩, [(4, [5], [])], []⟩
noncomputable def G39 (x : ((List (Int × (List Int))) × (List (Int × (List Int))))) : Option Bool := (bif (!decide (((x.1.length : Nat) : Int) = ((x.2.length : Nat) : Int))) then (some false) else (Option.bind (tloop (fun (v0 : Int) => (bif (decide (v0 < ((x.1.length : Nat) : Int))) then (if (((0 : Int) ≤ v0) ∧ (v0 < ((x.1.length : Nat) : Int))) then (if (((0 : Int) ≤ v0) ∧ (v0 < ((x.2.length : Nat) : Int))) then (Option.bind (G17 (((x.1.getD (v0).toNat ((0 : Int), ([] : (List Int)))).1, (x.1.getD (v0).toNat ((0 : Int), ([] : (List Int)))).2), ((x.2.getD (v0).toNat ((0 : Int), ([] : (List Int)))).1, (x.2.getD (v0).toNat ((0 : Int), ([] : (List Int)))).2))) (fun (v1 : Bool) => (bif (!v1) then (retM (some false)) else (some (LO.next (IntKind.wrap .i64 (v0 + (1 : Int)))))))) else none) else none) else (some (LO.brk 0 v0)))) (0 : Int)) (LO.fin fun i0 (v0 : Int) => (if i0 = 0 then (some true) else none))))
theorem t39 : tfn E39 Tryd.f39 S39 = G39 := by kernel_rfl
theorem c39 : FT Tryd.prog 39 S39 G39 := FT_fn tb_ok (ens_cons a17 c17 ens_nil) enw_nil mixed Tryd.func39 (by kernel_rfl) t39
theorem a39 : callable Tryd.prog 39 = true := by kernel_rfl

/- loop.example/g01083/laws.eqSchema -/
def S16 : Sig := ⟨[(true, (.pair (.int .i64) (.pair (.sl (.int .i64)) (.pair (.sl (.int .i64)) (.pair (.sl (.pair (.int .i64) (.sl (.int .i64)))) (.sl (.pair (.int .i64) (.sl (.int .i64))))))))), (true, (.pair (.int .i64) (.pair (.sl (.int .i64)) (.pair (.sl (.int .i64)) (.pair (.sl (.pair (.int .i64) (.sl (.int .i64)))) (.sl (.pair (.int .i64) (.sl (.int .i64)))))))))], [(false, 0, .bool)]⟩
noncomputable def E16 : Env2 := ⟨⟨TB, [⟨38, S38, G38⟩, ⟨39, S39, G39⟩], [], ⟨34, [2, 3], 0⟩⟩, [], []⟩
noncomputable def G16 (x : ((Int × ((List Int) × ((List Int) × ((List (Int × (List Int))) × (List (Int × (List Int))))))) × (Int × ((List Int) × ((List Int) × ((List (Int × (List Int))) × (List (Int × (List Int))))))))) : Option Bool := (bif (!decide (x.1.1 = x.2.1)) then (some false) else (Option.bind (G38 (x.1.2.1, x.2.2.1)) (fun (v0 : Bool) => (bif (!v0) then (some false) else (Option.bind (G38 (x.1.2.2.1, x.2.2.2.1)) (fun (v1 : Bool) => (bif (!v1) then (some false) else (Option.bind (G39 (x.1.2.2.2.1, x.2.2.2.2.1)) (fun (v2 : Bool) => (bif (!v2) then (some false) else (Option.bind (G39 (x.1.2.2.2.2, x.2.2.2.2.2)) (fun (v3 : Bool) => (bif (!v3) then (some false) else (some true))))))))))))))
theorem t16 : tfn E16 Tryd.f16 S16 = G16 := by kernel_rfl
theorem c16 : FT Tryd.prog 16 S16 G16 := FT_fn tb_ok (ens_cons a38 c38 (ens_cons a39 c39 ens_nil)) enw_nil mixed Tryd.func16 (by kernel_rfl) t16
theorem a16 : callable Tryd.prog 16 = true := by kernel_rfl

/- loop.example/g01083/laws.FnExactSchemaText -/
def S5 : Sig := ⟨[(true, (.pair (.int .i64) (.pair (.sl (.int .i64)) (.pair (.sl (.int .i64)) (.pair (.sl (.pair (.int .i64) (.sl (.int .i64)))) (.sl (.pair (.int .i64) (.sl (.int .i64)))))))))], [(false, 0, .bool)]⟩
noncomputable def E5 : Env2 := ⟨⟨TB, [⟨10, S10, G10⟩, ⟨13, S13, G13⟩, ⟨18, S18, G18⟩, ⟨19, S19, G19⟩, ⟨16, S16, G16⟩], [], ⟨40, [1], 0⟩⟩, [], []⟩
noncomputable def G5 (x : (Int × ((List Int) × ((List Int) × ((List (Int × (List Int))) × (List (Int × (List Int)))))))) : Option Bool := (Option.bind (G10 ((x.1, (x.2.1, (x.2.2.1, (x.2.2.2.1, x.2.2.2.2)))), (1048576 : Int))) (fun (v0 : Int) => (bif (decide (v0 < (0 : Int))) then (some true) else (Option.bind (G13 (x.1, (x.2.1, (x.2.2.1, (x.2.2.2.1, x.2.2.2.2))))) (fun (v1 : (Int × ((List Int) × ((List Int) × ((List (Int × (List Int))) × (List (Int × (List Int)))))))) => (Option.bind (G18 (v1.1, (v1.2.1, (v1.2.2.1, (v1.2.2.2.1, v1.2.2.2.2))))) (fun (v2 : (ByteArray × Int)) => (Option.bind (G13 (x.1, (x.2.1, (x.2.2.1, (x.2.2.2.1, x.2.2.2.2))))) (fun (v3 : (Int × ((List Int) × ((List Int) × ((List (Int × (List Int))) × (List (Int × (List Int)))))))) => (Option.bind (G19 (v3.1, (v3.2.1, (v3.2.2.1, (v3.2.2.2.1, v3.2.2.2.2))))) (fun (v4 : (ByteArray × Int)) => (Option.bind (bif (neS v4.1 v2.1) then (some true) else (some (!decide (v4.2 = v2.2)))) (fun (v5 : Bool) => (bif v5 then (some false) else (Option.bind (G13 (x.1, (x.2.1, (x.2.2.1, (x.2.2.2.1, x.2.2.2.2))))) (fun (v6 : (Int × ((List Int) × ((List Int) × ((List (Int × (List Int))) × (List (Int × (List Int)))))))) => (Option.bind (G16 ((v3.1, (v3.2.1, (v3.2.2.1, (v3.2.2.2.1, v3.2.2.2.2)))), (v6.1, (v6.2.1, (v6.2.2.1, (v6.2.2.2.1, v6.2.2.2.2)))))) (fun (v7 : Bool) => (bif (!v7) then (some false) else (some true))))))))))))))))))))
theorem t5 : tfn E5 Tryd.f5 S5 = G5 := by kernel_rfl
theorem c5 : FT Tryd.prog 5 S5 G5 := FT_fn tb_ok (ens_cons a10 c10 (ens_cons a13 c13 (ens_cons a18 c18 (ens_cons a19 c19 (ens_cons a16 c16 ens_nil))))) enw_nil mixed Tryd.func5 (by kernel_rfl) t5
theorem a5 : callable Tryd.prog 5 = true := by kernel_rfl

/- loop.example/g01083/spec.IsPathOf -/
def S32 : Sig := ⟨[(true, (.pair (.int .i64) (.pair (.sl (.int .i64)) (.pair (.sl (.int .i64)) (.pair (.sl (.pair (.int .i64) (.sl (.int .i64)))) (.sl (.pair (.int .i64) (.sl (.int .i64))))))))), (true, (.pair (.int .i64) (.sl (.int .i64))))], [(false, 0, .bool)]⟩
noncomputable def E32 : Env2 := ⟨⟨TB, [⟨40, S40, G40⟩, ⟨54, S54, G54⟩], [], ⟨12, [2, 3], 0⟩⟩, [], []⟩
noncomputable def G32 (x : ((Int × ((List Int) × ((List Int) × ((List (Int × (List Int))) × (List (Int × (List Int))))))) × (Int × (List Int)))) : Option Bool := (Option.bind (G40 (x.1.1, (x.1.2.1, (x.1.2.2.1, (x.1.2.2.2.1, x.1.2.2.2.2))))) (fun (v0 : Bool) => (Option.bind (bif v0 then (Option.bind (G54 ((x.1.1, (x.1.2.1, (x.1.2.2.1, (x.1.2.2.2.1, x.1.2.2.2.2)))), (x.2.1, x.2.2))) (fun (v1 : Bool) => (some v1))) else (some false)) (fun (v1 : Bool) => (some v1)))))
theorem t32 : tfn E32 Tryd.f32 S32 = G32 := by kernel_rfl
theorem c32 : FT Tryd.prog 32 S32 G32 := FT_fn tb_ok (ens_cons a40 c40 (ens_cons a54 c54 ens_nil)) enw_nil mixed Tryd.func32 (by kernel_rfl) t32
theorem a32 : callable Tryd.prog 32 = true := by kernel_rfl

/- loop.example/g01083/spec.PathText -/
def S12 : Sig := ⟨[(true, (.pair (.int .i64) (.pair (.sl (.int .i64)) (.pair (.sl (.int .i64)) (.pair (.sl (.pair (.int .i64) (.sl (.int .i64)))) (.sl (.pair (.int .i64) (.sl (.int .i64))))))))), (true, (.pair (.int .i64) (.sl (.int .i64))))], [(false, 0, .str), (false, 0, (.int .i64))]⟩
noncomputable def E12 : Env2 := ⟨⟨TB, [⟨32, S32, G32⟩, ⟨33, S33, G33⟩], [], ⟨12, [2, 3], 0⟩⟩, [], []⟩
noncomputable def G12 (x : ((Int × ((List Int) × ((List Int) × ((List (Int × (List Int))) × (List (Int × (List Int))))))) × (Int × (List Int)))) : Option (ByteArray × Int) := (Option.bind (G32 ((x.1.1, (x.1.2.1, (x.1.2.2.1, (x.1.2.2.2.1, x.1.2.2.2.2)))), (x.2.1, x.2.2))) (fun (v0 : Bool) => (bif (!v0) then (some ((ByteArray.mk #[]), (1 : Int))) else (Option.bind (G33 (x.2.1, x.2.2)) (fun (v1 : ByteArray) => (some (v1, (0 : Int))))))))
theorem t12 : tfn E12 Tryd.f12 S12 = G12 := by kernel_rfl
theorem c12 : FT Tryd.prog 12 S12 G12 := FT_fn tb_ok (ens_cons a32 c32 (ens_cons a33 c33 ens_nil)) enw_nil mixed Tryd.func12 (by kernel_rfl) t12
theorem a12 : callable Tryd.prog 12 = true := by kernel_rfl

/- (*loop.example/g01083/impl.Schema).isPath -/
def S36 : Sig := ⟨[(false, (.ptr (.pair (.int .i64) (.pair (.sl (.int .i64)) (.pair (.sl (.int .i64)) (.pair (.sl (.pair (.int .i64) (.sl (.int .i64)))) (.sl (.pair (.int .i64) (.sl (.int .i64)))))))))), (true, (.pair (.int .i64) (.sl (.int .i64))))], [(false, 0, .bool)]⟩
noncomputable def E36 : Env2 := ⟨⟨TB, [⟨42, S42, G42⟩, ⟨55, S55, G55⟩], [], ⟨17, [3], 0⟩⟩, [], []⟩
noncomputable def G36 (x : ((Int × ((List Int) × ((List Int) × ((List (Int × (List Int))) × (List (Int × (List Int))))))) × (Int × (List Int)))) : Option Bool := (Option.bind (G42 x.1) (fun (v0 : Bool) => (bif (!v0) then (some false) else (Option.bind (G55 (x.1, (x.2.1, x.2.2))) (fun (v1 : (Int × Bool)) => (some v1.2))))))
theorem t36 : tfn E36 Tryd.f36 S36 = G36 := by kernel_rfl
theorem c36 : FT Tryd.prog 36 S36 G36 := FT_fn tb_ok (ens_cons a42 c42 (ens_cons a55 c55 ens_nil)) enw_nil mixed Tryd.func36 (by kernel_rfl) t36
theorem a36 : callable Tryd.prog 36 = true := by kernel_rfl

/- loop.example/g01083/impl.PathText -/
def S15 : Sig := ⟨[(true, (.pair (.int .i64) (.pair (.sl (.int .i64)) (.pair (.sl (.int .i64)) (.pair (.sl (.pair (.int .i64) (.sl (.int .i64)))) (.sl (.pair (.int .i64) (.sl (.int .i64))))))))), (true, (.pair (.int .i64) (.sl (.int .i64))))], [(false, 0, .str), (false, 0, (.int .i64))]⟩
noncomputable def E15 : Env2 := ⟨⟨TB, [⟨36, S36, G36⟩, ⟨37, S37, G37⟩], [], ⟨11, [2, 3], 0⟩⟩, [], []⟩
noncomputable def G15 (x : ((Int × ((List Int) × ((List Int) × ((List (Int × (List Int))) × (List (Int × (List Int))))))) × (Int × (List Int)))) : Option (ByteArray × Int) := (Option.bind (G36 ((x.1.1, (x.1.2.1, (x.1.2.2.1, (x.1.2.2.2.1, x.1.2.2.2.2)))), (x.2.1, x.2.2))) (fun (v0 : Bool) => (bif (!v0) then (some ((ByteArray.mk #[]), (1 : Int))) else (Option.bind (G37 (x.2.1, x.2.2)) (fun (v1 : ByteArray) => (some (v1, (0 : Int))))))))
theorem t15 : tfn E15 Tryd.f15 S15 = G15 := by kernel_rfl
theorem c15 : FT Tryd.prog 15 S15 G15 := FT_fn tb_ok (ens_cons a36 c36 (ens_cons a37 c37 ens_nil)) enw_nil mixed Tryd.func15 (by kernel_rfl) t15
theorem a15 : callable Tryd.prog 15 = true := by kernel_rfl

/- loop.example/g01083/laws.FnExactPathText -/
def S4 : Sig := ⟨[(true, (.pair (.int .i64) (.pair (.sl (.int .i64)) (.pair (.sl (.int .i64)) (.pair (.sl (.pair (.int .i64) (.sl (.int .i64)))) (.sl (.pair (.int .i64) (.sl (.int .i64))))))))), (true, (.pair (.int .i64) (.sl (.int .i64))))], [(false, 0, .bool)]⟩
noncomputable def E4 : Env2 := ⟨⟨TB, [⟨10, S10, G10⟩, ⟨11, S11, G11⟩, ⟨13, S13, G13⟩, ⟨14, S14, G14⟩, ⟨12, S12, G12⟩, ⟨15, S15, G15⟩, ⟨16, S16, G16⟩, ⟨17, S17, G17⟩], [], ⟨58, [2, 3], 0⟩⟩, [], []⟩
noncomputable def G4 (x : ((Int × ((List Int) × ((List Int) × ((List (Int × (List Int))) × (List (Int × (List Int))))))) × (Int × (List Int)))) : Option Bool := (Option.bind (G10 ((x.1.1, (x.1.2.1, (x.1.2.2.1, (x.1.2.2.2.1, x.1.2.2.2.2)))), (1048576 : Int))) (fun (v0 : Int) => (bif (decide (v0 < (0 : Int))) then (some true) else (Option.bind (G11 ((x.2.1, x.2.2), v0)) (fun (v1 : Int) => (bif (decide (v1 < (0 : Int))) then (some true) else (Option.bind (G13 (x.1.1, (x.1.2.1, (x.1.2.2.1, (x.1.2.2.2.1, x.1.2.2.2.2))))) (fun (v2 : (Int × ((List Int) × ((List Int) × ((List (Int × (List Int))) × (List (Int × (List Int)))))))) => (Option.bind (G14 (x.2.1, x.2.2)) (fun (v3 : (Int × (List Int))) => (Option.bind (G12 ((v2.1, (v2.2.1, (v2.2.2.1, (v2.2.2.2.1, v2.2.2.2.2)))), (v3.1, v3.2))) (fun (v4 : (ByteArray × Int)) => (Option.bind (G13 (x.1.1, (x.1.2.1, (x.1.2.2.1, (x.1.2.2.2.1, x.1.2.2.2.2))))) (fun (v5 : (Int × ((List Int) × ((List Int) × ((List (Int × (List Int))) × (List (Int × (List Int)))))))) => (Option.bind (G14 (x.2.1, x.2.2)) (fun (v6 : (Int × (List Int))) => (Option.bind (G15 ((v5.1, (v5.2.1, (v5.2.2.1, (v5.2.2.2.1, v5.2.2.2.2)))), (v6.1, v6.2))) (fun (v7 : (ByteArray × Int)) => (Option.bind (bif (neS v7.1 v4.1) then (some true) else (some (!decide (v7.2 = v4.2)))) (fun (v8 : Bool) => (bif v8 then (some false) else (Option.bind (G13 (x.1.1, (x.1.2.1, (x.1.2.2.1, (x.1.2.2.2.1, x.1.2.2.2.2))))) (fun (v9 : (Int × ((List Int) × ((List Int) × ((List (Int × (List Int))) × (List (Int × (List Int)))))))) => (Option.bind (G16 ((v5.1, (v5.2.1, (v5.2.2.1, (v5.2.2.2.1, v5.2.2.2.2)))), (v9.1, (v9.2.1, (v9.2.2.1, (v9.2.2.2.1, v9.2.2.2.2)))))) (fun (v10 : Bool) => (bif (!v10) then (some false) else (Option.bind (G14 (x.2.1, x.2.2)) (fun (v11 : (Int × (List Int))) => (Option.bind (G17 ((v6.1, v6.2), (v11.1, v11.2))) (fun (v12 : Bool) => (bif (!v12) then (some false) else (some true))))))))))))))))))))))))))))))))
theorem t4 : tfn E4 Tryd.f4 S4 = G4 := by kernel_rfl
theorem c4 : FT Tryd.prog 4 S4 G4 := FT_fn tb_ok (ens_cons a10 c10 (ens_cons a11 c11 (ens_cons a13 c13 (ens_cons a14 c14 (ens_cons a12 c12 (ens_cons a15 c15 (ens_cons a16 c16 (ens_cons a17 c17 ens_nil)))))))) enw_nil mixed Tryd.func4 (by kernel_rfl) t4
theorem a4 : callable Tryd.prog 4 = true := by kernel_rfl

end Go.Ve.D

