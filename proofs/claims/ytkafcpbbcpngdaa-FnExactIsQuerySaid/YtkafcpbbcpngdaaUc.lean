/- What the functions compute (printed by Py.lean), and that they do. -/
import Derived.Test.YtkafcpbbcpngdaaUa
namespace Go.Ve.D
open Go Go.Ve Go.Proofs
set_option maxRecDepth 100000

/- loop.example/g01083/laws.szInt64S -/
def S56 : Sig := ⟨[(false, (.sl (.int .i64))), (false, (.int .i64))], [(false, 0, (.int .i64))]⟩
noncomputable def E56 : Env2 := ⟨⟨TB, [], ⟨12, [], 0⟩⟩, [], []⟩
noncomputable def G56 (x : ((List Int) × Int)) : Option Int := (bif (decide ((IntKind.wrap .i64 (x.2 - ((x.1.length : Nat) : Int))) < (0 : Int))) then (some (-(1 : Int))) else (some (IntKind.wrap .i64 (x.2 - ((x.1.length : Nat) : Int)))))
theorem t56 : tfn E56 Try.f56 S56 = G56 := by kernel_rfl
theorem c56 : FT Try.prog 56 S56 G56 := FT_fn tb_ok ens_nil mixed Try.func56 (by kernel_rfl) t56
theorem a56 : callable Try.prog 56 = true := by kernel_rfl

/- loop.example/g01083/laws.szInt64SS -/
def S57 : Sig := ⟨[(false, (.sl (.sl (.int .i64)))), (false, (.int .i64))], [(false, 0, (.int .i64))]⟩
noncomputable def E57 : Env2 := ⟨⟨TB, [⟨56, S56, G56⟩], ⟨27, [], 0⟩⟩, [(5, [1, 5], [])], []⟩
noncomputable def G57 (x : ((List (List Int)) × Int)) : Option Int := (bif (decide ((IntKind.wrap .i64 (x.2 - ((x.1.length : Nat) : Int))) < (0 : Int))) then (some (-(1 : Int))) else (Option.bind (tloop (fun (v0 : (Int × Int)) => (bif (decide (v0.2 < ((x.1.length : Nat) : Int))) then (if (((0 : Int) ≤ v0.2) ∧ (v0.2 < ((x.1.length : Nat) : Int))) then (Option.bind (G56 ((x.1.getD (v0.2).toNat []), v0.1)) (fun (v1 : Int) => (bif (decide (v1 < (0 : Int))) then (retM (some (-(1 : Int)))) else (some (LO.next (v1, (IntKind.wrap .i64 (v0.2 + (1 : Int))))))))) else none) else (some (LO.brk 0 (v0.1, v0.2))))) ((IntKind.wrap .i64 (x.2 - ((x.1.length : Nat) : Int))), (0 : Int))) (LO.fin fun i0 (v0 : (Int × Int)) => (if i0 = 0 then (some v0.1) else none))))
theorem t57 : tfn E57 Try.f57 S57 = G57 := by kernel_rfl
theorem c57 : FT Try.prog 57 S57 G57 := FT_fn tb_ok (ens_cons a56 c56 ens_nil) mixed Try.func57 (by kernel_rfl) t57
theorem a57 : callable Try.prog 57 = true := by kernel_rfl

/- loop.example/g01083/laws.szCategory -/
def S11 : Sig := ⟨[(true, (.pair (.int .i64) (.pair (.sl (.int .i64)) (.pair (.sl (.int .i64)) (.pair (.sl (.int .i64)) (.sl (.sl (.int .i64)))))))), (false, (.int .i64))], [(false, 0, (.int .i64))]⟩
noncomputable def E11 : Env2 := ⟨⟨TB, [⟨56, S56, G56⟩, ⟨57, S57, G57⟩], ⟨30, [2], 0⟩⟩, [], []⟩
noncomputable def G11 (x : ((Int × ((List Int) × ((List Int) × ((List Int) × (List (List Int)))))) × Int)) : Option Int := (Option.bind (G56 (x.1.2.1, x.2)) (fun (v0 : Int) => (bif (decide (v0 < (0 : Int))) then (some (-(1 : Int))) else (Option.bind (G56 (x.1.2.2.1, v0)) (fun (v1 : Int) => (bif (decide (v1 < (0 : Int))) then (some (-(1 : Int))) else (Option.bind (G56 (x.1.2.2.2.1, v1)) (fun (v2 : Int) => (bif (decide (v2 < (0 : Int))) then (some (-(1 : Int))) else (Option.bind (G57 (x.1.2.2.2.2, v2)) (fun (v3 : Int) => (bif (decide (v3 < (0 : Int))) then (some (-(1 : Int))) else (some v3)))))))))))))
theorem t11 : tfn E11 Try.f11 S11 = G11 := by kernel_rfl
theorem c11 : FT Try.prog 11 S11 G11 := FT_fn tb_ok (ens_cons a56 c56 (ens_cons a57 c57 ens_nil)) mixed Try.func11 (by kernel_rfl) t11
theorem a11 : callable Try.prog 11 = true := by kernel_rfl

/- loop.example/g01083/laws.szTermS -/
def S58 : Sig := ⟨[(false, (.sl (.pair (.int .i64) (.int .i64)))), (false, (.int .i64))], [(false, 0, (.int .i64))]⟩
noncomputable def E58 : Env2 := ⟨⟨TB, [], ⟨12, [], 0⟩⟩, [], []⟩
noncomputable def G58 (x : ((List (Int × Int)) × Int)) : Option Int := (bif (decide ((IntKind.wrap .i64 (x.2 - ((x.1.length : Nat) : Int))) < (0 : Int))) then (some (-(1 : Int))) else (some (IntKind.wrap .i64 (x.2 - ((x.1.length : Nat) : Int)))))
theorem t58 : tfn E58 Try.f58 S58 = G58 := by kernel_rfl
theorem c58 : FT Try.prog 58 S58 G58 := FT_fn tb_ok ens_nil mixed Try.func58 (by kernel_rfl) t58
theorem a58 : callable Try.prog 58 = true := by kernel_rfl

/- loop.example/g01083/laws.szQuery -/
def S12 : Sig := ⟨[(true, (.pair (.sl (.int .i64)) (.pair (.sl (.pair (.int .i64) (.int .i64))) (.pair (.sl (.pair (.int .i64) (.int .i64))) (.sl (.int .i64)))))), (false, (.int .i64))], [(false, 0, (.int .i64))]⟩
noncomputable def E12 : Env2 := ⟨⟨TB, [⟨56, S56, G56⟩, ⟨58, S58, G58⟩], ⟨30, [2], 0⟩⟩, [], []⟩
noncomputable def G12 (x : (((List Int) × ((List (Int × Int)) × ((List (Int × Int)) × (List Int)))) × Int)) : Option Int := (Option.bind (G56 (x.1.1, x.2)) (fun (v0 : Int) => (bif (decide (v0 < (0 : Int))) then (some (-(1 : Int))) else (Option.bind (G58 (x.1.2.1, v0)) (fun (v1 : Int) => (bif (decide (v1 < (0 : Int))) then (some (-(1 : Int))) else (Option.bind (G58 (x.1.2.2.1, v1)) (fun (v2 : Int) => (bif (decide (v2 < (0 : Int))) then (some (-(1 : Int))) else (Option.bind (G56 (x.1.2.2.2, v2)) (fun (v3 : Int) => (bif (decide (v3 < (0 : Int))) then (some (-(1 : Int))) else (some v3)))))))))))))
theorem t12 : tfn E12 Try.f12 S12 = G12 := by kernel_rfl
theorem c12 : FT Try.prog 12 S12 G12 := FT_fn tb_ok (ens_cons a56 c56 (ens_cons a58 c58 ens_nil)) mixed Try.func12 (by kernel_rfl) t12
theorem a12 : callable Try.prog 12 = true := by kernel_rfl

/- loop.example/g01083/laws.toInt64S -/
def S49 : Sig := ⟨[(false, (.sl (.int .i64)))], [(false, 1, (.sl (.int .i64)))]⟩
noncomputable def E49 : Env2 := ⟨⟨TB, [], ⟨22, [], 0⟩⟩, [(3, [3, 4], [1])], []⟩
noncomputable def G49 (x : (List Int)) : Option (List Int) := (if (((0 : Int) ≤ ((x.length : Nat) : Int)) ∧ ((((x.length : Nat) : Int) ≤ ((x.length : Nat) : Int)) ∧ ((((8 : Int) * ((x.length : Nat) : Int)) ≤ (281474976710656 : Int)) ∧ (((x.length : Nat) : Int) ≤ (9223372036854775807 : Int))))) then (Option.bind (tloop (fun (v0 : (Int × (List Int))) => (bif (decide (v0.1 < ((x.length : Nat) : Int))) then (if (((0 : Int) ≤ v0.1) ∧ (v0.1 < ((x.length : Nat) : Int))) then (if (((0 : Int) ≤ v0.1) ∧ (v0.1 < ((v0.2.length : Nat) : Int))) then (some (LO.next ((IntKind.wrap .i64 (v0.1 + (1 : Int))), (v0.2.set (v0.1).toNat (x.getD (v0.1).toNat (0 : Int)))))) else none) else none) else (some (LO.brk 0 (v0.1, v0.2))))) ((0 : Int), (List.replicate (((x.length : Nat) : Int)).toNat (0 : Int)))) (LO.fin fun i0 (v0 : (Int × (List Int))) => (if i0 = 0 then (some v0.2) else none))) else none)
theorem t49 : tfn E49 Try.f49 S49 = G49 := by kernel_rfl
theorem c49 : FT Try.prog 49 S49 G49 := FT_fn tb_ok ens_nil mixed Try.func49 (by kernel_rfl) t49
theorem a49 : callable Try.prog 49 = true := by kernel_rfl

/- loop.example/g01083/laws.toInt64SS -/
def S62 : Sig := ⟨[(false, (.sl (.sl (.int .i64))))], [(false, 2, (.sl (.sl (.int .i64))))]⟩
noncomputable def E62 : Env2 := ⟨⟨TB, [⟨49, S49, G49⟩], ⟨23, [], 0⟩⟩, [(3, [3, 4], [1])], []⟩
noncomputable def G62 (x : (List (List Int))) : Option (List (List Int)) := (if (((0 : Int) ≤ ((x.length : Nat) : Int)) ∧ ((((x.length : Nat) : Int) ≤ ((x.length : Nat) : Int)) ∧ ((((24 : Int) * ((x.length : Nat) : Int)) ≤ (281474976710656 : Int)) ∧ (((x.length : Nat) : Int) ≤ (9223372036854775807 : Int))))) then (Option.bind (tloop (fun (v0 : (Int × (List (List Int)))) => (bif (decide (v0.1 < ((x.length : Nat) : Int))) then (if (((0 : Int) ≤ v0.1) ∧ (v0.1 < ((x.length : Nat) : Int))) then (Option.bind (G49 (x.getD (v0.1).toNat [])) (fun (v1 : (List Int)) => (if (((0 : Int) ≤ v0.1) ∧ (v0.1 < ((v0.2.length : Nat) : Int))) then (some (LO.next ((IntKind.wrap .i64 (v0.1 + (1 : Int))), (v0.2.set (v0.1).toNat v1)))) else none))) else none) else (some (LO.brk 0 (v0.1, v0.2))))) ((0 : Int), (List.replicate (((x.length : Nat) : Int)).toNat []))) (LO.fin fun i0 (v0 : (Int × (List (List Int)))) => (if i0 = 0 then (some v0.2) else none))) else none)
theorem t62 : tfn E62 Try.f62 S62 = G62 := by kernel_rfl
theorem c62 : FT Try.prog 62 S62 G62 := FT_fn tb_ok (ens_cons a49 c49 ens_nil) mixed Try.func62 (by kernel_rfl) t62
theorem a62 : callable Try.prog 62 = true := by kernel_rfl

/- loop.example/g01083/laws.toCategory -/
def S14 : Sig := ⟨[(true, (.pair (.int .i64) (.pair (.sl (.int .i64)) (.pair (.sl (.int .i64)) (.pair (.sl (.int .i64)) (.sl (.sl (.int .i64))))))))], [(true, 2, (.pair (.int .i64) (.pair (.sl (.int .i64)) (.pair (.sl (.int .i64)) (.pair (.sl (.int .i64)) (.sl (.sl (.int .i64))))))))]⟩
noncomputable def E14 : Env2 := ⟨⟨TB, [⟨49, S49, G49⟩, ⟨62, S62, G62⟩], ⟨24, [1], 0⟩⟩, [], []⟩
noncomputable def G14 (x : (Int × ((List Int) × ((List Int) × ((List Int) × (List (List Int))))))) : Option (Int × ((List Int) × ((List Int) × ((List Int) × (List (List Int)))))) := (Option.bind (G49 x.2.1) (fun (v0 : (List Int)) => (Option.bind (G49 x.2.2.1) (fun (v1 : (List Int)) => (Option.bind (G49 x.2.2.2.1) (fun (v2 : (List Int)) => (Option.bind (G62 x.2.2.2.2) (fun (v3 : (List (List Int))) => (some (x.1, (v0, (v1, (v2, v3)))))))))))))
theorem t14 : tfn E14 Try.f14 S14 = G14 := by kernel_rfl
theorem c14 : FT Try.prog 14 S14 G14 := FT_fn tb_ok (ens_cons a49 c49 (ens_cons a62 c62 ens_nil)) mixed Try.func14 (by kernel_rfl) t14
theorem a14 : callable Try.prog 14 = true := by kernel_rfl

/- loop.example/g01083/laws.toTerm -/
def S97 : Sig := ⟨[(true, (.pair (.int .i64) (.int .i64)))], [(true, 0, (.pair (.int .i64) (.int .i64)))]⟩
noncomputable def E97 : Env2 := ⟨⟨TB, [], ⟨11, [1], 0⟩⟩, [], []⟩
noncomputable def G97 (x : (Int × Int)) : Option (Int × Int) := (some (x.1, x.2))
theorem t97 : tfn E97 Try.f97 S97 = G97 := by kernel_rfl
theorem c97 : FT Try.prog 97 S97 G97 := FT_fn tb_ok ens_nil mixed Try.func97 (by kernel_rfl) t97
theorem a97 : callable Try.prog 97 = true := by kernel_rfl

/- loop.example/g01083/laws.toTermS -/
def S63 : Sig := ⟨[(false, (.sl (.pair (.int .i64) (.int .i64))))], [(false, 1, (.sl (.pair (.int .i64) (.int .i64))))]⟩
noncomputable def E63 : Env2 := ⟨⟨TB, [⟨97, S97, G97⟩], ⟨23, [], 0⟩⟩, [(3, [3, 4], [1])], []⟩
noncomputable def G63 (x : (List (Int × Int))) : Option (List (Int × Int)) := (if (((0 : Int) ≤ ((x.length : Nat) : Int)) ∧ ((((x.length : Nat) : Int) ≤ ((x.length : Nat) : Int)) ∧ ((((16 : Int) * ((x.length : Nat) : Int)) ≤ (281474976710656 : Int)) ∧ (((x.length : Nat) : Int) ≤ (9223372036854775807 : Int))))) then (Option.bind (tloop (fun (v0 : (Int × (List (Int × Int)))) => (bif (decide (v0.1 < ((x.length : Nat) : Int))) then (if (((0 : Int) ≤ v0.1) ∧ (v0.1 < ((x.length : Nat) : Int))) then (Option.bind (G97 ((x.getD (v0.1).toNat ((0 : Int), (0 : Int))).1, (x.getD (v0.1).toNat ((0 : Int), (0 : Int))).2)) (fun (v1 : (Int × Int)) => (if (((0 : Int) ≤ v0.1) ∧ (v0.1 < ((v0.2.length : Nat) : Int))) then (some (LO.next ((IntKind.wrap .i64 (v0.1 + (1 : Int))), ((v0.2.set (v0.1).toNat (v1.1, (v0.2.getD (v0.1).toNat ((0 : Int), (0 : Int))).2)).set (v0.1).toNat (((v0.2.set (v0.1).toNat (v1.1, (v0.2.getD (v0.1).toNat ((0 : Int), (0 : Int))).2)).getD (v0.1).toNat ((0 : Int), (0 : Int))).1, v1.2))))) else none))) else none) else (some (LO.brk 0 (v0.1, v0.2))))) ((0 : Int), (List.replicate (((x.length : Nat) : Int)).toNat ((0 : Int), (0 : Int))))) (LO.fin fun i0 (v0 : (Int × (List (Int × Int)))) => (if i0 = 0 then (some v0.2) else none))) else none)
theorem t63 : tfn E63 Try.f63 S63 = G63 := by kernel_rfl
theorem c63 : FT Try.prog 63 S63 G63 := FT_fn tb_ok (ens_cons a97 c97 ens_nil) mixed Try.func63 (by kernel_rfl) t63
theorem a63 : callable Try.prog 63 = true := by kernel_rfl

/- loop.example/g01083/laws.toQuery -/
def S15 : Sig := ⟨[(true, (.pair (.sl (.int .i64)) (.pair (.sl (.pair (.int .i64) (.int .i64))) (.pair (.sl (.pair (.int .i64) (.int .i64))) (.sl (.int .i64))))))], [(true, 1, (.pair (.sl (.int .i64)) (.pair (.sl (.pair (.int .i64) (.int .i64))) (.pair (.sl (.pair (.int .i64) (.int .i64))) (.sl (.int .i64))))))]⟩
noncomputable def E15 : Env2 := ⟨⟨TB, [⟨49, S49, G49⟩, ⟨63, S63, G63⟩], ⟨21, [1], 0⟩⟩, [], []⟩
noncomputable def G15 (x : ((List Int) × ((List (Int × Int)) × ((List (Int × Int)) × (List Int))))) : Option ((List Int) × ((List (Int × Int)) × ((List (Int × Int)) × (List Int)))) := (Option.bind (G49 x.1) (fun (v0 : (List Int)) => (Option.bind (G63 x.2.1) (fun (v1 : (List (Int × Int))) => (Option.bind (G63 x.2.2.1) (fun (v2 : (List (Int × Int))) => (Option.bind (G49 x.2.2.2) (fun (v3 : (List Int)) => (some (v0, (v1, (v2, v3))))))))))))
theorem t15 : tfn E15 Try.f15 S15 = G15 := by kernel_rfl
theorem c15 : FT Try.prog 15 S15 G15 := FT_fn tb_ok (ens_cons a49 c49 (ens_cons a63 c63 ens_nil)) mixed Try.func15 (by kernel_rfl) t15
theorem a15 : callable Try.prog 15 = true := by kernel_rfl

/- loop.example/g01083/spec.l01In -/
def S71 : Sig := ⟨[(false, (.int .i64)), (false, (.int .i64)), (false, (.int .i64))], [(false, 0, .bool)]⟩
noncomputable def E71 : Env2 := ⟨⟨TB, [], ⟨15, [], 0⟩⟩, [], []⟩
noncomputable def G71 (x : (Int × (Int × Int))) : Option Bool := (Option.bind (bif (decide (x.2.1 ≤ x.1)) then (some (decide (x.1 ≤ x.2.2))) else (some false)) (fun (v0 : Bool) => (some v0)))
theorem t71 : tfn E71 Try.f71 S71 = G71 := by kernel_rfl
theorem c71 : FT Try.prog 71 S71 G71 := FT_fn tb_ok ens_nil mixed Try.func71 (by kernel_rfl) t71
theorem a71 : callable Try.prog 71 = true := by kernel_rfl

/- loop.example/g01083/spec.l01Map -/
def S60 : Sig := ⟨[(false, (.int .i64)), (false, (.sl (.int .i64)))], [(false, 0, .bool)]⟩
noncomputable def E60 : Env2 := ⟨⟨TB, [], ⟨25, [], 0⟩⟩, [(2, [5], [])], []⟩
noncomputable def G60 (x : (Int × (List Int))) : Option Bool := (Option.bind (tloop (fun (v0 : Int) => (bif (decide (v0 < ((x.2.length : Nat) : Int))) then (if (((0 : Int) ≤ v0) ∧ (v0 < ((x.2.length : Nat) : Int))) then (Option.bind (bif (decide ((x.2.getD (v0).toNat (0 : Int)) < (0 : Int))) then (some true) else (if (((0 : Int) ≤ v0) ∧ (v0 < ((x.2.length : Nat) : Int))) then (some (decide (x.1 ≤ (x.2.getD (v0).toNat (0 : Int))))) else none)) (fun (v1 : Bool) => (bif v1 then (retM (some false)) else (some (LO.next (IntKind.wrap .i64 (v0 + (1 : Int)))))))) else none) else (some (LO.brk 0 v0)))) (0 : Int)) (LO.fin fun i0 (v0 : Int) => (if i0 = 0 then (some true) else none)))
theorem t60 : tfn E60 Try.f60 S60 = G60 := by kernel_rfl
theorem c60 : FT Try.prog 60 S60 G60 := FT_fn tb_ok ens_nil mixed Try.func60 (by kernel_rfl) t60
theorem a60 : callable Try.prog 60 = true := by kernel_rfl

/- loop.example/g01083/spec.l02Ends -/
def S121 : Sig := ⟨[(false, (.sl (.int .i64))), (false, (.int .i64)), (false, (.int .i64))], [(false, 0, .bool)]⟩
noncomputable def E121 : Env2 := ⟨⟨TB, [⟨60, S60, G60⟩], ⟨16, [], 0⟩⟩, [], []⟩
noncomputable def G121 (x : ((List Int) × (Int × Int))) : Option Bool := (Option.bind (bif (decide (((x.1.length : Nat) : Int) = x.2.1)) then (Option.bind (G60 (x.2.2, x.1)) (fun (v0 : Bool) => (some v0))) else (some false)) (fun (v0 : Bool) => (some v0)))
theorem t121 : tfn E121 Try.f121 S121 = G121 := by kernel_rfl
theorem c121 : FT Try.prog 121 S121 G121 := FT_fn tb_ok (ens_cons a60 c60 ens_nil) mixed Try.func121 (by kernel_rfl) t121
theorem a121 : callable Try.prog 121 = true := by kernel_rfl

/- loop.example/g01083/spec.IsShape -/
def S94 : Sig := ⟨[(true, (.pair (.int .i64) (.pair (.sl (.int .i64)) (.pair (.sl (.int .i64)) (.pair (.sl (.int .i64)) (.sl (.sl (.int .i64))))))))], [(false, 0, .bool)]⟩
noncomputable def E94 : Env2 := ⟨⟨TB, [⟨71, S71, G71⟩, ⟨121, S121, G121⟩, ⟨60, S60, G60⟩], ⟨159, [1], 0⟩⟩, [(7, [4], []), (12, [5], []), (17, [6], [])], []⟩
noncomputable def G94 (x : (Int × ((List Int) × ((List Int) × ((List Int) × (List (List Int))))))) : Option Bool := (Option.bind (G71 (x.1, ((0 : Int), (8 : Int)))) (fun (v0 : Bool) => (Option.bind (bif (!v0) then (some true) else (some (decide ((40 : Int) < ((x.2.1.length : Nat) : Int))))) (fun (v1 : Bool) => (Option.bind (bif v1 then (some true) else (Option.bind (G121 (x.2.1, (((x.2.1.length : Nat) : Int), x.1))) (fun (v2 : Bool) => (some (!v2))))) (fun (v2 : Bool) => (Option.bind (bif v2 then (some true) else (Option.bind (G121 (x.2.2.1, (((x.2.1.length : Nat) : Int), x.1))) (fun (v3 : Bool) => (some (!v3))))) (fun (v3 : Bool) => (Option.bind (bif v3 then (some true) else (some (!decide (((x.2.2.2.2.length : Nat) : Int) = ((x.2.1.length : Nat) : Int))))) (fun (v4 : Bool) => (bif v4 then (some false) else (Option.bind (bif (!decide (((x.2.2.2.1.length : Nat) : Int) = x.1)) then (some true) else (Option.bind (G60 (((x.2.1.length : Nat) : Int), x.2.2.2.1)) (fun (v5 : Bool) => (some (!v5))))) (fun (v5 : Bool) => (bif v5 then (some false) else (Option.bind (tloop (fun (v6 : Int) => (bif (decide (v6 < x.1)) then (if (((0 : Int) ≤ v6) ∧ (v6 < ((x.2.2.2.1.length : Nat) : Int))) then (if (((0 : Int) ≤ (x.2.2.2.1.getD (v6).toNat (0 : Int))) ∧ ((x.2.2.2.1.getD (v6).toNat (0 : Int)) < ((x.2.1.length : Nat) : Int))) then (Option.bind (bif (!decide ((x.2.1.getD ((x.2.2.2.1.getD (v6).toNat (0 : Int))).toNat (0 : Int)) = v6)) then (some true) else (if (((0 : Int) ≤ v6) ∧ (v6 < ((x.2.2.2.1.length : Nat) : Int))) then (if (((0 : Int) ≤ (x.2.2.2.1.getD (v6).toNat (0 : Int))) ∧ ((x.2.2.2.1.getD (v6).toNat (0 : Int)) < ((x.2.2.1.length : Nat) : Int))) then (some (!decide ((x.2.2.1.getD ((x.2.2.2.1.getD (v6).toNat (0 : Int))).toNat (0 : Int)) = v6))) else none) else none)) (fun (v7 : Bool) => (bif v7 then (retM (some false)) else (some (LO.next (IntKind.wrap .i64 (v6 + (1 : Int)))))))) else none) else none) else (some (LO.brk 0 v6)))) (0 : Int)) (LO.fin fun i6 (v6 : Int) => (if i6 = 0 then (Option.bind (tloop (fun (v7 : Int) => (bif (decide (v7 < ((x.2.1.length : Nat) : Int))) then (if (((0 : Int) ≤ v7) ∧ (v7 < ((x.2.2.2.2.length : Nat) : Int))) then (bif (!decide ((((x.2.2.2.2.getD (v7).toNat []).length : Nat) : Int) = ((x.2.1.length : Nat) : Int))) then (retM (some false)) else (Option.bind (tloop (fun (v8 : Int) => (bif (decide (v8 < ((x.2.1.length : Nat) : Int))) then (if (((0 : Int) ≤ v7) ∧ (v7 < ((x.2.2.2.2.length : Nat) : Int))) then (if (((0 : Int) ≤ v8) ∧ (v8 < (((x.2.2.2.2.getD (v7).toNat []).length : Nat) : Int))) then (if (((0 : Int) ≤ v7) ∧ (v7 < ((x.2.2.1.length : Nat) : Int))) then (if (((0 : Int) ≤ v8) ∧ (v8 < ((x.2.1.length : Nat) : Int))) then (bif (!decide ((x.2.2.1.getD (v7).toNat (0 : Int)) = (x.2.1.getD (v8).toNat (0 : Int)))) then (bif (!decide (((x.2.2.2.2.getD (v7).toNat []).getD (v8).toNat (0 : Int)) = (-(1 : Int)))) then (retM (retM (some false))) else (some (LO.next (IntKind.wrap .i64 (v8 + (1 : Int)))))) else (Option.bind (bif (decide (((x.2.2.2.2.getD (v7).toNat []).getD (v8).toNat (0 : Int)) < (0 : Int))) then (some true) else (some (decide (((x.2.1.length : Nat) : Int) ≤ ((x.2.2.2.2.getD (v7).toNat []).getD (v8).toNat (0 : Int)))))) (fun (v9 : Bool) => (Option.bind (bif v9 then (some true) else (if (((0 : Int) ≤ ((x.2.2.2.2.getD (v7).toNat []).getD (v8).toNat (0 : Int))) ∧ (((x.2.2.2.2.getD (v7).toNat []).getD (v8).toNat (0 : Int)) < ((x.2.1.length : Nat) : Int))) then (if (((0 : Int) ≤ v7) ∧ (v7 < ((x.2.1.length : Nat) : Int))) then (some (!decide ((x.2.1.getD (((x.2.2.2.2.getD (v7).toNat []).getD (v8).toNat (0 : Int))).toNat (0 : Int)) = (x.2.1.getD (v7).toNat (0 : Int))))) else none) else none)) (fun (v10 : Bool) => (Option.bind (bif v10 then (some true) else (if (((0 : Int) ≤ ((x.2.2.2.2.getD (v7).toNat []).getD (v8).toNat (0 : Int))) ∧ (((x.2.2.2.2.getD (v7).toNat []).getD (v8).toNat (0 : Int)) < ((x.2.2.1.length : Nat) : Int))) then (if (((0 : Int) ≤ v8) ∧ (v8 < ((x.2.2.1.length : Nat) : Int))) then (some (!decide ((x.2.2.1.getD (((x.2.2.2.2.getD (v7).toNat []).getD (v8).toNat (0 : Int))).toNat (0 : Int)) = (x.2.2.1.getD (v8).toNat (0 : Int))))) else none) else none)) (fun (v11 : Bool) => (bif v11 then (retM (retM (some false))) else (some (LO.next (IntKind.wrap .i64 (v8 + (1 : Int))))))))))))) else none) else none) else none) else none) else (some (LO.brk 4 v8)))) (0 : Int)) (LO.fin fun i8 (v8 : Int) => (if i8 = 4 then (some (LO.next (IntKind.wrap .i64 (v7 + (1 : Int))))) else none)))) else none) else (some (LO.brk 2 v7)))) (0 : Int)) (LO.fin fun i7 (v7 : Int) => (if i7 = 2 then (some true) else none))) else none)))))))))))))))))
theorem t94 : tfn E94 Try.f94 S94 = G94 := by kernel_rfl
theorem c94 : FT Try.prog 94 S94 G94 := FT_fn tb_ok (ens_cons a71 c71 (ens_cons a121 c121 (ens_cons a60 c60 ens_nil))) mixed Try.func94 (by kernel_rfl) t94
theorem a94 : callable Try.prog 94 = true := by kernel_rfl

/- loop.example/g01083/spec.l02Fault -/
def S95 : Sig := ⟨[(true, (.pair (.int .i64) (.pair (.sl (.int .i64)) (.pair (.sl (.int .i64)) (.pair (.sl (.int .i64)) (.sl (.sl (.int .i64))))))))], [(false, 0, (.int .i64)), (false, 0, (.int .i64)), (false, 0, (.int .i64)), (false, 0, (.int .i64))]⟩
noncomputable def E95 : Env2 := ⟨⟨TB, [], ⟨131, [1], 0⟩⟩, [(3, [7], []), (8, [8], []), (11, [9], []), (15, [10], [])], []⟩
noncomputable def G95 (x : (Int × ((List Int) × ((List Int) × ((List Int) × (List (List Int))))))) : Option (Int × (Int × (Int × Int))) := (Option.bind (tloop (fun (v0 : Int) => (bif (decide (v0 < ((x.2.1.length : Nat) : Int))) then (if (((0 : Int) ≤ v0) ∧ (v0 < ((x.2.1.length : Nat) : Int))) then (if (((0 : Int) ≤ (x.2.1.getD (v0).toNat (0 : Int))) ∧ ((x.2.1.getD (v0).toNat (0 : Int)) < ((x.2.2.2.1.length : Nat) : Int))) then (if (((0 : Int) ≤ (x.2.2.2.1.getD ((x.2.1.getD (v0).toNat (0 : Int))).toNat (0 : Int))) ∧ ((x.2.2.2.1.getD ((x.2.1.getD (v0).toNat (0 : Int))).toNat (0 : Int)) < ((x.2.2.2.2.length : Nat) : Int))) then (if (((0 : Int) ≤ v0) ∧ (v0 < (((x.2.2.2.2.getD ((x.2.2.2.1.getD ((x.2.1.getD (v0).toNat (0 : Int))).toNat (0 : Int))).toNat []).length : Nat) : Int))) then (Option.bind (bif (!decide (((x.2.2.2.2.getD ((x.2.2.2.1.getD ((x.2.1.getD (v0).toNat (0 : Int))).toNat (0 : Int))).toNat []).getD (v0).toNat (0 : Int)) = v0)) then (some true) else (if (((0 : Int) ≤ v0) ∧ (v0 < ((x.2.2.2.2.length : Nat) : Int))) then (if (((0 : Int) ≤ v0) ∧ (v0 < ((x.2.2.1.length : Nat) : Int))) then (if (((0 : Int) ≤ (x.2.2.1.getD (v0).toNat (0 : Int))) ∧ ((x.2.2.1.getD (v0).toNat (0 : Int)) < ((x.2.2.2.1.length : Nat) : Int))) then (if (((0 : Int) ≤ (x.2.2.2.1.getD ((x.2.2.1.getD (v0).toNat (0 : Int))).toNat (0 : Int))) ∧ ((x.2.2.2.1.getD ((x.2.2.1.getD (v0).toNat (0 : Int))).toNat (0 : Int)) < (((x.2.2.2.2.getD (v0).toNat []).length : Nat) : Int))) then (some (!decide (((x.2.2.2.2.getD (v0).toNat []).getD ((x.2.2.2.1.getD ((x.2.2.1.getD (v0).toNat (0 : Int))).toNat (0 : Int))).toNat (0 : Int)) = v0))) else none) else none) else none) else none)) (fun (v1 : Bool) => (bif v1 then (retM (some ((1 : Int), (v0, ((0 : Int), (0 : Int)))))) else (some (LO.next (IntKind.wrap .i64 (v0 + (1 : Int)))))))) else none) else none) else none) else none) else (some (LO.brk 0 v0)))) (0 : Int)) (LO.fin fun i0 (v0 : Int) => (if i0 = 0 then (Option.bind (tloop (fun (v1 : Int) => (bif (decide (v1 < ((x.2.1.length : Nat) : Int))) then (Option.bind (tloop (fun (v2 : Int) => (bif (decide (v2 < ((x.2.1.length : Nat) : Int))) then (if (((0 : Int) ≤ v1) ∧ (v1 < ((x.2.2.1.length : Nat) : Int))) then (if (((0 : Int) ≤ v2) ∧ (v2 < ((x.2.1.length : Nat) : Int))) then (bif (!decide ((x.2.2.1.getD (v1).toNat (0 : Int)) = (x.2.1.getD (v2).toNat (0 : Int)))) then (some (LO.next (IntKind.wrap .i64 (v2 + (1 : Int))))) else (Option.bind (tloop (fun (v3 : Int) => (bif (decide (v3 < ((x.2.1.length : Nat) : Int))) then (if (((0 : Int) ≤ v2) ∧ (v2 < ((x.2.2.1.length : Nat) : Int))) then (if (((0 : Int) ≤ v3) ∧ (v3 < ((x.2.1.length : Nat) : Int))) then (Option.bind (bif (decide ((x.2.2.1.getD (v2).toNat (0 : Int)) = (x.2.1.getD (v3).toNat (0 : Int)))) then (if (((0 : Int) ≤ v1) ∧ (v1 < ((x.2.2.2.2.length : Nat) : Int))) then (if (((0 : Int) ≤ v2) ∧ (v2 < (((x.2.2.2.2.getD (v1).toNat []).length : Nat) : Int))) then (if (((0 : Int) ≤ ((x.2.2.2.2.getD (v1).toNat []).getD (v2).toNat (0 : Int))) ∧ (((x.2.2.2.2.getD (v1).toNat []).getD (v2).toNat (0 : Int)) < ((x.2.2.2.2.length : Nat) : Int))) then (if (((0 : Int) ≤ v3) ∧ (v3 < (((x.2.2.2.2.getD (((x.2.2.2.2.getD (v1).toNat []).getD (v2).toNat (0 : Int))).toNat []).length : Nat) : Int))) then (if (((0 : Int) ≤ v1) ∧ (v1 < ((x.2.2.2.2.length : Nat) : Int))) then (if (((0 : Int) ≤ v2) ∧ (v2 < ((x.2.2.2.2.length : Nat) : Int))) then (if (((0 : Int) ≤ v3) ∧ (v3 < (((x.2.2.2.2.getD (v2).toNat []).length : Nat) : Int))) then (if (((0 : Int) ≤ ((x.2.2.2.2.getD (v2).toNat []).getD (v3).toNat (0 : Int))) ∧ (((x.2.2.2.2.getD (v2).toNat []).getD (v3).toNat (0 : Int)) < (((x.2.2.2.2.getD (v1).toNat []).length : Nat) : Int))) then (some (!decide (((x.2.2.2.2.getD (((x.2.2.2.2.getD (v1).toNat []).getD (v2).toNat (0 : Int))).toNat []).getD (v3).toNat (0 : Int)) = ((x.2.2.2.2.getD (v1).toNat []).getD (((x.2.2.2.2.getD (v2).toNat []).getD (v3).toNat (0 : Int))).toNat (0 : Int))))) else none) else none) else none) else none) else none) else none) else none) else none) else (some false)) (fun (v4 : Bool) => (bif v4 then (retM (retM (retM (some ((2 : Int), (v1, (v2, v3))))))) else (some (LO.next (IntKind.wrap .i64 (v3 + (1 : Int)))))))) else none) else none) else (some (LO.brk 6 v3)))) (0 : Int)) (LO.fin fun i3 (v3 : Int) => (if i3 = 6 then (some (LO.next (IntKind.wrap .i64 (v2 + (1 : Int))))) else none)))) else none) else none) else (some (LO.brk 4 v2)))) (0 : Int)) (LO.fin fun i2 (v2 : Int) => (if i2 = 4 then (some (LO.next (IntKind.wrap .i64 (v1 + (1 : Int))))) else none))) else (some (LO.brk 2 v1)))) (0 : Int)) (LO.fin fun i1 (v1 : Int) => (if i1 = 2 then (some ((0 : Int), ((0 : Int), ((0 : Int), (0 : Int))))) else none))) else none)))
theorem t95 : tfn E95 Try.f95 S95 = G95 := by kernel_rfl
theorem c95 : FT Try.prog 95 S95 G95 := FT_fn tb_ok ens_nil mixed Try.func95 (by kernel_rfl) t95
theorem a95 : callable Try.prog 95 = true := by kernel_rfl

/- loop.example/g01083/spec.l02Is -/
def S59 : Sig := ⟨[(true, (.pair (.int .i64) (.pair (.sl (.int .i64)) (.pair (.sl (.int .i64)) (.pair (.sl (.int .i64)) (.sl (.sl (.int .i64))))))))], [(false, 0, .bool)]⟩
noncomputable def E59 : Env2 := ⟨⟨TB, [⟨94, S94, G94⟩, ⟨95, S95, G95⟩], ⟨19, [1], 0⟩⟩, [], []⟩
noncomputable def G59 (x : (Int × ((List Int) × ((List Int) × ((List Int) × (List (List Int))))))) : Option Bool := (Option.bind (G94 (x.1, (x.2.1, (x.2.2.1, (x.2.2.2.1, x.2.2.2.2))))) (fun (v0 : Bool) => (bif (!v0) then (some false) else (Option.bind (G95 (x.1, (x.2.1, (x.2.2.1, (x.2.2.2.1, x.2.2.2.2))))) (fun (v1 : (Int × (Int × (Int × Int)))) => (some (decide (v1.1 = (0 : Int)))))))))
theorem t59 : tfn E59 Try.f59 S59 = G59 := by kernel_rfl
theorem c59 : FT Try.prog 59 S59 G59 := FT_fn tb_ok (ens_cons a94 c94 (ens_cons a95 c95 ens_nil)) mixed Try.func59 (by kernel_rfl) t59
theorem a59 : callable Try.prog 59 = true := by kernel_rfl

/- loop.example/g01083/spec.l02Arrow -/
def S96 : Sig := ⟨[(true, (.pair (.int .i64) (.pair (.sl (.int .i64)) (.pair (.sl (.int .i64)) (.pair (.sl (.int .i64)) (.sl (.sl (.int .i64)))))))), (false, (.int .i64))], [(false, 0, .bool)]⟩
noncomputable def E96 : Env2 := ⟨⟨TB, [], ⟨14, [2], 0⟩⟩, [], []⟩
noncomputable def G96 (x : ((Int × ((List Int) × ((List Int) × ((List Int) × (List (List Int)))))) × Int)) : Option Bool := (Option.bind (bif (decide ((0 : Int) ≤ x.2)) then (some (decide (x.2 < ((x.1.2.1.length : Nat) : Int)))) else (some false)) (fun (v0 : Bool) => (some v0)))
theorem t96 : tfn E96 Try.f96 S96 = G96 := by kernel_rfl
theorem c96 : FT Try.prog 96 S96 G96 := FT_fn tb_ok ens_nil mixed Try.func96 (by kernel_rfl) t96
theorem a96 : callable Try.prog 96 = true := by kernel_rfl

/- loop.example/g01083/spec.l38Term -/
def S61 : Sig := ⟨[(true, (.pair (.int .i64) (.pair (.sl (.int .i64)) (.pair (.sl (.int .i64)) (.pair (.sl (.int .i64)) (.sl (.sl (.int .i64)))))))), (false, (.sl (.int .i64))), (true, (.pair (.int .i64) (.int .i64)))], [(false, 0, .bool)]⟩
noncomputable def E61 : Env2 := ⟨⟨TB, [⟨71, S71, G71⟩, ⟨96, S96, G96⟩], ⟨33, [3, 5], 0⟩⟩, [], []⟩
noncomputable def G61 (x : ((Int × ((List Int) × ((List Int) × ((List Int) × (List (List Int)))))) × ((List Int) × (Int × Int)))) : Option Bool := (Option.bind (G71 (x.2.2.1, ((0 : Int), (IntKind.wrap .i64 (((x.2.1.length : Nat) : Int) - (1 : Int)))))) (fun (v0 : Bool) => (Option.bind (bif v0 then (Option.bind (G96 ((x.1.1, (x.1.2.1, (x.1.2.2.1, (x.1.2.2.2.1, x.1.2.2.2.2)))), x.2.2.2)) (fun (v1 : Bool) => (some v1))) else (some false)) (fun (v1 : Bool) => (Option.bind (bif v1 then (if (((0 : Int) ≤ x.2.2.2) ∧ (x.2.2.2 < ((x.1.2.1.length : Nat) : Int))) then (if (((0 : Int) ≤ x.2.2.1) ∧ (x.2.2.1 < ((x.2.1.length : Nat) : Int))) then (some (decide ((x.1.2.1.getD (x.2.2.2).toNat (0 : Int)) = (x.2.1.getD (x.2.2.1).toNat (0 : Int))))) else none) else none) else (some false)) (fun (v2 : Bool) => (some v2)))))))
theorem t61 : tfn E61 Try.f61 S61 = G61 := by kernel_rfl
theorem c61 : FT Try.prog 61 S61 G61 := FT_fn tb_ok (ens_cons a71 c71 (ens_cons a96 c96 ens_nil)) mixed Try.func61 (by kernel_rfl) t61
theorem a61 : callable Try.prog 61 = true := by kernel_rfl

/- loop.example/g01083/spec.IsQuery -/
def S13 : Sig := ⟨[(true, (.pair (.int .i64) (.pair (.sl (.int .i64)) (.pair (.sl (.int .i64)) (.pair (.sl (.int .i64)) (.sl (.sl (.int .i64)))))))), (true, (.pair (.sl (.int .i64)) (.pair (.sl (.pair (.int .i64) (.int .i64))) (.pair (.sl (.pair (.int .i64) (.int .i64))) (.sl (.int .i64))))))], [(false, 0, .bool)]⟩
noncomputable def E13 : Env2 := ⟨⟨TB, [⟨59, S59, G59⟩, ⟨60, S60, G60⟩, ⟨61, S61, G61⟩], ⟨105, [2, 3], 0⟩⟩, [(4, [5], [])], []⟩
noncomputable def G13 (x : ((Int × ((List Int) × ((List Int) × ((List Int) × (List (List Int)))))) × ((List Int) × ((List (Int × Int)) × ((List (Int × Int)) × (List Int)))))) : Option Bool := (Option.bind (G59 (x.1.1, (x.1.2.1, (x.1.2.2.1, (x.1.2.2.2.1, x.1.2.2.2.2))))) (fun (v0 : Bool) => (Option.bind (bif (!v0) then (some true) else (some (decide ((4 : Int) < ((x.2.1.length : Nat) : Int))))) (fun (v1 : Bool) => (Option.bind (bif v1 then (some true) else (Option.bind (G60 (x.1.1, x.2.1)) (fun (v2 : Bool) => (some (!v2))))) (fun (v2 : Bool) => (Option.bind (bif v2 then (some true) else (some (decide ((6 : Int) < ((x.2.2.1.length : Nat) : Int))))) (fun (v3 : Bool) => (Option.bind (bif v3 then (some true) else (some (!decide (((x.2.2.2.1.length : Nat) : Int) = ((x.2.2.1.length : Nat) : Int))))) (fun (v4 : Bool) => (Option.bind (bif v4 then (some true) else (some (decide ((4 : Int) < ((x.2.2.2.2.length : Nat) : Int))))) (fun (v5 : Bool) => (Option.bind (bif v5 then (some true) else (Option.bind (G60 (((x.2.1.length : Nat) : Int), x.2.2.2.2)) (fun (v6 : Bool) => (some (!v6))))) (fun (v6 : Bool) => (bif v6 then (some false) else (Option.bind (tloop (fun (v7 : Int) => (bif (decide (v7 < ((x.2.2.1.length : Nat) : Int))) then (if (((0 : Int) ≤ v7) ∧ (v7 < ((x.2.2.1.length : Nat) : Int))) then (Option.bind (G61 ((x.1.1, (x.1.2.1, (x.1.2.2.1, (x.1.2.2.2.1, x.1.2.2.2.2)))), (x.2.1, ((x.2.2.1.getD (v7).toNat ((0 : Int), (0 : Int))).1, (x.2.2.1.getD (v7).toNat ((0 : Int), (0 : Int))).2)))) (fun (v8 : Bool) => (Option.bind (bif (!v8) then (some true) else (if (((0 : Int) ≤ v7) ∧ (v7 < ((x.2.2.2.1.length : Nat) : Int))) then (Option.bind (G61 ((x.1.1, (x.1.2.1, (x.1.2.2.1, (x.1.2.2.2.1, x.1.2.2.2.2)))), (x.2.1, ((x.2.2.2.1.getD (v7).toNat ((0 : Int), (0 : Int))).1, (x.2.2.2.1.getD (v7).toNat ((0 : Int), (0 : Int))).2)))) (fun (v9 : Bool) => (some (!v9)))) else none)) (fun (v9 : Bool) => (Option.bind (bif v9 then (some true) else (if (((0 : Int) ≤ v7) ∧ (v7 < ((x.2.2.1.length : Nat) : Int))) then (if (((0 : Int) ≤ (x.2.2.1.getD (v7).toNat ((0 : Int), (0 : Int))).2) ∧ ((x.2.2.1.getD (v7).toNat ((0 : Int), (0 : Int))).2 < ((x.1.2.2.1.length : Nat) : Int))) then (if (((0 : Int) ≤ v7) ∧ (v7 < ((x.2.2.2.1.length : Nat) : Int))) then (if (((0 : Int) ≤ (x.2.2.2.1.getD (v7).toNat ((0 : Int), (0 : Int))).2) ∧ ((x.2.2.2.1.getD (v7).toNat ((0 : Int), (0 : Int))).2 < ((x.1.2.2.1.length : Nat) : Int))) then (some (!decide ((x.1.2.2.1.getD ((x.2.2.1.getD (v7).toNat ((0 : Int), (0 : Int))).2).toNat (0 : Int)) = (x.1.2.2.1.getD ((x.2.2.2.1.getD (v7).toNat ((0 : Int), (0 : Int))).2).toNat (0 : Int))))) else none) else none) else none) else none)) (fun (v10 : Bool) => (bif v10 then (retM (some false)) else (some (LO.next (IntKind.wrap .i64 (v7 + (1 : Int)))))))))))) else none) else (some (LO.brk 0 v7)))) (0 : Int)) (LO.fin fun i7 (v7 : Int) => (if i7 = 0 then (some true) else none))))))))))))))))))
theorem t13 : tfn E13 Try.f13 S13 = G13 := by kernel_rfl
theorem c13 : FT Try.prog 13 S13 G13 := FT_fn tb_ok (ens_cons a59 c59 (ens_cons a60 c60 (ens_cons a61 c61 ens_nil))) mixed Try.func13 (by kernel_rfl) t13
theorem a13 : callable Try.prog 13 = true := by kernel_rfl

/- (*loop.example/g01083/impl.Category).arrows -/
def S104 : Sig := ⟨[(false, (.ptr (.pair (.int .i64) (.pair (.sl (.int .i64)) (.pair (.sl (.int .i64)) (.pair (.sl (.int .i64)) (.sl (.sl (.int .i64)))))))))], [(false, 0, (.int .i64))]⟩
noncomputable def E104 : Env2 := ⟨⟨TB, [], ⟨8, [], 0⟩⟩, [], []⟩
noncomputable def G104 (x : (Int × ((List Int) × ((List Int) × ((List Int) × (List (List Int))))))) : Option Int := (some ((x.2.1.length : Nat) : Int))
theorem t104 : tfn E104 Try.f104 S104 = G104 := by kernel_rfl
theorem c104 : FT Try.prog 104 S104 G104 := FT_fn tb_ok ens_nil mixed Try.func104 (by kernel_rfl) t104
theorem a104 : callable Try.prog 104 = true := by kernel_rfl

/- loop.example/g01083/impl.inRange -/
def S73 : Sig := ⟨[(false, (.int .i64)), (false, (.int .i64)), (false, (.int .i64))], [(false, 0, .bool)]⟩
noncomputable def E73 : Env2 := ⟨⟨TB, [], ⟨15, [], 0⟩⟩, [], []⟩
noncomputable def G73 (x : (Int × (Int × Int))) : Option Bool := (Option.bind (bif (decide (x.2.1 ≤ x.1)) then (some (decide (x.1 ≤ x.2.2))) else (some false)) (fun (v0 : Bool) => (some v0)))
theorem t73 : tfn E73 Try.f73 S73 = G73 := by kernel_rfl
theorem c73 : FT Try.prog 73 S73 G73 := FT_fn tb_ok ens_nil mixed Try.func73 (by kernel_rfl) t73
theorem a73 : callable Try.prog 73 = true := by kernel_rfl

/- loop.example/g01083/impl.within -/
def S111 : Sig := ⟨[(false, (.sl (.int .i64))), (false, (.int .i64))], [(false, 0, .bool)]⟩
noncomputable def E111 : Env2 := ⟨⟨TB, [⟨73, S73, G73⟩], ⟨19, [], 0⟩⟩, [(2, [9], [])], []⟩
noncomputable def G111 (x : ((List Int) × Int)) : Option Bool := (Option.bind (tloop (fun (v0 : Int) => (bif (decide (v0 < ((x.1.length : Nat) : Int))) then (if (((0 : Int) ≤ v0) ∧ (v0 < ((x.1.length : Nat) : Int))) then (Option.bind (G73 ((x.1.getD (v0).toNat (0 : Int)), ((0 : Int), (IntKind.wrap .i64 (x.2 - (1 : Int)))))) (fun (v1 : Bool) => (bif (!v1) then (retM (some false)) else (some (LO.next (IntKind.wrap .i64 (v0 + (1 : Int)))))))) else none) else (some (LO.brk 0 v0)))) (0 : Int)) (LO.fin fun i0 (v0 : Int) => (if i0 = 0 then (some true) else none)))
theorem t111 : tfn E111 Try.f111 S111 = G111 := by kernel_rfl
theorem c111 : FT Try.prog 111 S111 G111 := FT_fn tb_ok (ens_cons a73 c73 ens_nil) mixed Try.func111 (by kernel_rfl) t111
theorem a111 : callable Try.prog 111 = true := by kernel_rfl

/- (*loop.example/g01083/impl.Category).ends -/
def S122 : Sig := ⟨[(false, (.ptr (.pair (.int .i64) (.pair (.sl (.int .i64)) (.pair (.sl (.int .i64)) (.pair (.sl (.int .i64)) (.sl (.sl (.int .i64))))))))), (false, (.int .i64))], [(true, 0, (.pair (.int .i64) (.int .i64)))]⟩
noncomputable def E122 : Env2 := ⟨⟨TB, [], ⟨20, [], 0⟩⟩, [], []⟩
noncomputable def G122 (x : ((Int × ((List Int) × ((List Int) × ((List Int) × (List (List Int)))))) × Int)) : Option (Int × Int) := (if (((0 : Int) ≤ x.2) ∧ (x.2 < ((x.1.2.1.length : Nat) : Int))) then (if (((0 : Int) ≤ x.2) ∧ (x.2 < ((x.1.2.2.1.length : Nat) : Int))) then (some ((x.1.2.1.getD (x.2).toNat (0 : Int)), (x.1.2.2.1.getD (x.2).toNat (0 : Int)))) else none) else none)
theorem t122 : tfn E122 Try.f122 S122 = G122 := by kernel_rfl
theorem c122 : FT Try.prog 122 S122 G122 := FT_fn tb_ok ens_nil mixed Try.func122 (by kernel_rfl) t122
theorem a122 : callable Try.prog 122 = true := by kernel_rfl

/- (*loop.example/g01083/impl.Category).isShape -/
def S100 : Sig := ⟨[(false, (.ptr (.pair (.int .i64) (.pair (.sl (.int .i64)) (.pair (.sl (.int .i64)) (.pair (.sl (.int .i64)) (.sl (.sl (.int .i64)))))))))], [(false, 0, .bool)]⟩
noncomputable def E100 : Env2 := ⟨⟨TB, [⟨104, S104, G104⟩, ⟨73, S73, G73⟩, ⟨111, S111, G111⟩, ⟨122, S122, G122⟩], ⟨167, [], 0⟩⟩, [(7, [88], []), (13, [106], []), (18, [117], [])], []⟩
noncomputable def G100 (x : (Int × ((List Int) × ((List Int) × ((List Int) × (List (List Int))))))) : Option Bool := (Option.bind (G104 x) (fun (v0 : Int) => (Option.bind (G73 (x.1, ((0 : Int), (8 : Int)))) (fun (v1 : Bool) => (Option.bind (bif (!v1) then (some true) else (some (decide ((40 : Int) < v0)))) (fun (v2 : Bool) => (Option.bind (bif v2 then (some true) else (some (!decide (((x.2.2.1.length : Nat) : Int) = v0)))) (fun (v3 : Bool) => (Option.bind (bif v3 then (some true) else (Option.bind (G111 (x.2.1, x.1)) (fun (v4 : Bool) => (some (!v4))))) (fun (v4 : Bool) => (Option.bind (bif v4 then (some true) else (Option.bind (G111 (x.2.2.1, x.1)) (fun (v5 : Bool) => (some (!v5))))) (fun (v5 : Bool) => (bif v5 then (some false) else (Option.bind (bif (!decide (((x.2.2.2.1.length : Nat) : Int) = x.1)) then (some true) else (Option.bind (G111 (x.2.2.2.1, v0)) (fun (v6 : Bool) => (some (!v6))))) (fun (v6 : Bool) => (Option.bind (bif v6 then (some true) else (some (!decide (((x.2.2.2.2.length : Nat) : Int) = v0)))) (fun (v7 : Bool) => (bif v7 then (some false) else (Option.bind (tloop (fun (v8 : Int) => (bif (decide (v8 < ((x.2.2.2.1.length : Nat) : Int))) then (if (((0 : Int) ≤ v8) ∧ (v8 < ((x.2.2.2.1.length : Nat) : Int))) then (Option.bind (G122 (x, (x.2.2.2.1.getD (v8).toNat (0 : Int)))) (fun (v9 : (Int × Int)) => (bif (!((decide (v9.1 = v8)) && ((decide (v9.2 = v8)) && true))) then (retM (some false)) else (some (LO.next (IntKind.wrap .i64 (v8 + (1 : Int)))))))) else none) else (some (LO.brk 0 v8)))) (0 : Int)) (LO.fin fun i8 (v8 : Int) => (if i8 = 0 then (Option.bind (tloop (fun (v9 : Int) => (bif (decide (v9 < ((x.2.2.2.2.length : Nat) : Int))) then (if (((0 : Int) ≤ v9) ∧ (v9 < ((x.2.2.2.2.length : Nat) : Int))) then (bif (!decide ((((x.2.2.2.2.getD (v9).toNat []).length : Nat) : Int) = v0)) then (retM (some false)) else (Option.bind (tloop (fun (v10 : Int) => (bif (decide (v10 < (((x.2.2.2.2.getD (v9).toNat []).length : Nat) : Int))) then (if (((0 : Int) ≤ v10) ∧ (v10 < (((x.2.2.2.2.getD (v9).toNat []).length : Nat) : Int))) then (if (((0 : Int) ≤ v9) ∧ (v9 < ((x.2.2.1.length : Nat) : Int))) then (if (((0 : Int) ≤ v10) ∧ (v10 < ((x.2.1.length : Nat) : Int))) then (bif (!decide ((x.2.2.1.getD (v9).toNat (0 : Int)) = (x.2.1.getD (v10).toNat (0 : Int)))) then (bif (!decide (((x.2.2.2.2.getD (v9).toNat []).getD (v10).toNat (0 : Int)) = (-(1 : Int)))) then (retM (retM (some false))) else (some (LO.next (IntKind.wrap .i64 (v10 + (1 : Int)))))) else (Option.bind (G73 (((x.2.2.2.2.getD (v9).toNat []).getD (v10).toNat (0 : Int)), ((0 : Int), (IntKind.wrap .i64 (v0 - (1 : Int)))))) (fun (v11 : Bool) => (Option.bind (bif (!v11) then (some true) else (Option.bind (G122 (x, ((x.2.2.2.2.getD (v9).toNat []).getD (v10).toNat (0 : Int)))) (fun (v12 : (Int × Int)) => (if (((0 : Int) ≤ v9) ∧ (v9 < ((x.2.1.length : Nat) : Int))) then (if (((0 : Int) ≤ v10) ∧ (v10 < ((x.2.2.1.length : Nat) : Int))) then (some (!((decide (v12.1 = (x.2.1.getD (v9).toNat (0 : Int)))) && ((decide (v12.2 = (x.2.2.1.getD (v10).toNat (0 : Int)))) && true)))) else none) else none)))) (fun (v12 : Bool) => (bif v12 then (retM (retM (some false))) else (some (LO.next (IntKind.wrap .i64 (v10 + (1 : Int))))))))))) else none) else none) else none) else (some (LO.brk 4 v10)))) (0 : Int)) (LO.fin fun i10 (v10 : Int) => (if i10 = 4 then (some (LO.next (IntKind.wrap .i64 (v9 + (1 : Int))))) else none)))) else none) else (some (LO.brk 2 v9)))) (0 : Int)) (LO.fin fun i9 (v9 : Int) => (if i9 = 2 then (some true) else none))) else none)))))))))))))))))))))
theorem t100 : tfn E100 Try.f100 S100 = G100 := by kernel_rfl
theorem c100 : FT Try.prog 100 S100 G100 := FT_fn tb_ok (ens_cons a104 c104 (ens_cons a73 c73 (ens_cons a111 c111 (ens_cons a122 c122 ens_nil)))) mixed Try.func100 (by kernel_rfl) t100
theorem a100 : callable Try.prog 100 = true := by kernel_rfl

/- (*loop.example/g01083/impl.Category).then -/
def S123 : Sig := ⟨[(false, (.ptr (.pair (.int .i64) (.pair (.sl (.int .i64)) (.pair (.sl (.int .i64)) (.pair (.sl (.int .i64)) (.sl (.sl (.int .i64))))))))), (false, (.int .i64)), (false, (.int .i64))], [(false, 0, (.int .i64))]⟩
noncomputable def E123 : Env2 := ⟨⟨TB, [], ⟨17, [], 0⟩⟩, [], []⟩
noncomputable def G123 (x : ((Int × ((List Int) × ((List Int) × ((List Int) × (List (List Int)))))) × (Int × Int))) : Option Int := (if (((0 : Int) ≤ x.2.1) ∧ (x.2.1 < ((x.1.2.2.2.2.length : Nat) : Int))) then (if (((0 : Int) ≤ x.2.2) ∧ (x.2.2 < (((x.1.2.2.2.2.getD (x.2.1).toNat []).length : Nat) : Int))) then (some ((x.1.2.2.2.2.getD (x.2.1).toNat []).getD (x.2.2).toNat (0 : Int))) else none) else none)
theorem t123 : tfn E123 Try.f123 S123 = G123 := by kernel_rfl
theorem c123 : FT Try.prog 123 S123 G123 := FT_fn tb_ok ens_nil mixed Try.func123 (by kernel_rfl) t123
theorem a123 : callable Try.prog 123 = true := by kernel_rfl

/- (*loop.example/g01083/impl.Category).fault -/
def S101 : Sig := ⟨[(false, (.ptr (.pair (.int .i64) (.pair (.sl (.int .i64)) (.pair (.sl (.int .i64)) (.pair (.sl (.int .i64)) (.sl (.sl (.int .i64)))))))))], [(false, 0, (.int .i64)), (false, 0, (.int .i64)), (false, 0, (.int .i64)), (false, 0, (.int .i64))]⟩
noncomputable def E101 : Env2 := ⟨⟨TB, [⟨104, S104, G104⟩, ⟨123, S123, G123⟩], ⟨102, [], 0⟩⟩, [(3, [7], []), (8, [8], []), (11, [9], []), (15, [10], [])], []⟩
noncomputable def G101 (x : (Int × ((List Int) × ((List Int) × ((List Int) × (List (List Int))))))) : Option (Int × (Int × (Int × Int))) := (Option.bind (G104 x) (fun (v0 : Int) => (Option.bind (tloop (fun (v1 : Int) => (bif (decide (v1 < v0)) then (if (((0 : Int) ≤ v1) ∧ (v1 < ((x.2.1.length : Nat) : Int))) then (if (((0 : Int) ≤ (x.2.1.getD (v1).toNat (0 : Int))) ∧ ((x.2.1.getD (v1).toNat (0 : Int)) < ((x.2.2.2.1.length : Nat) : Int))) then (Option.bind (G123 (x, ((x.2.2.2.1.getD ((x.2.1.getD (v1).toNat (0 : Int))).toNat (0 : Int)), v1))) (fun (v2 : Int) => (Option.bind (bif (!decide (v2 = v1)) then (some true) else (if (((0 : Int) ≤ v1) ∧ (v1 < ((x.2.2.1.length : Nat) : Int))) then (if (((0 : Int) ≤ (x.2.2.1.getD (v1).toNat (0 : Int))) ∧ ((x.2.2.1.getD (v1).toNat (0 : Int)) < ((x.2.2.2.1.length : Nat) : Int))) then (Option.bind (G123 (x, (v1, (x.2.2.2.1.getD ((x.2.2.1.getD (v1).toNat (0 : Int))).toNat (0 : Int))))) (fun (v3 : Int) => (some (!decide (v3 = v1))))) else none) else none)) (fun (v3 : Bool) => (bif v3 then (retM (some ((1 : Int), (v1, ((0 : Int), (0 : Int)))))) else (some (LO.next (IntKind.wrap .i64 (v1 + (1 : Int)))))))))) else none) else none) else (some (LO.brk 0 v1)))) (0 : Int)) (LO.fin fun i1 (v1 : Int) => (if i1 = 0 then (Option.bind (tloop (fun (v2 : Int) => (bif (decide (v2 < v0)) then (Option.bind (tloop (fun (v3 : Int) => (bif (decide (v3 < v0)) then (Option.bind (G123 (x, (v2, v3))) (fun (v4 : Int) => (bif (decide (v4 < (0 : Int))) then (some (LO.next (IntKind.wrap .i64 (v3 + (1 : Int))))) else (Option.bind (tloop (fun (v5 : Int) => (bif (decide (v5 < v0)) then (Option.bind (G123 (x, (v3, v5))) (fun (v6 : Int) => (Option.bind (bif (decide ((0 : Int) ≤ v6)) then (Option.bind (G123 (x, (v2, v3))) (fun (v7 : Int) => (Option.bind (G123 (x, (v7, v5))) (fun (v8 : Int) => (Option.bind (G123 (x, (v3, v5))) (fun (v9 : Int) => (Option.bind (G123 (x, (v2, v9))) (fun (v10 : Int) => (some (!decide (v8 = v10))))))))))) else (some false)) (fun (v7 : Bool) => (bif v7 then (retM (retM (retM (some ((2 : Int), (v2, (v3, v5))))))) else (some (LO.next (IntKind.wrap .i64 (v5 + (1 : Int)))))))))) else (some (LO.brk 6 v5)))) (0 : Int)) (LO.fin fun i5 (v5 : Int) => (if i5 = 6 then (some (LO.next (IntKind.wrap .i64 (v3 + (1 : Int))))) else none)))))) else (some (LO.brk 4 v3)))) (0 : Int)) (LO.fin fun i3 (v3 : Int) => (if i3 = 4 then (some (LO.next (IntKind.wrap .i64 (v2 + (1 : Int))))) else none))) else (some (LO.brk 2 v2)))) (0 : Int)) (LO.fin fun i2 (v2 : Int) => (if i2 = 2 then (some ((0 : Int), ((0 : Int), ((0 : Int), (0 : Int))))) else none))) else none)))))
theorem t101 : tfn E101 Try.f101 S101 = G101 := by kernel_rfl
theorem c101 : FT Try.prog 101 S101 G101 := FT_fn tb_ok (ens_cons a104 c104 (ens_cons a123 c123 ens_nil)) mixed Try.func101 (by kernel_rfl) t101
theorem a101 : callable Try.prog 101 = true := by kernel_rfl

/- (*loop.example/g01083/impl.Category).isCategory -/
def S67 : Sig := ⟨[(false, (.ptr (.pair (.int .i64) (.pair (.sl (.int .i64)) (.pair (.sl (.int .i64)) (.pair (.sl (.int .i64)) (.sl (.sl (.int .i64)))))))))], [(false, 0, .bool)]⟩
noncomputable def E67 : Env2 := ⟨⟨TB, [⟨100, S100, G100⟩, ⟨101, S101, G101⟩], ⟨19, [], 0⟩⟩, [], []⟩
noncomputable def G67 (x : (Int × ((List Int) × ((List Int) × ((List Int) × (List (List Int))))))) : Option Bool := (Option.bind (G100 x) (fun (v0 : Bool) => (bif (!v0) then (some false) else (Option.bind (G101 x) (fun (v1 : (Int × (Int × (Int × Int)))) => (some (decide (v1.1 = (0 : Int)))))))))
theorem t67 : tfn E67 Try.f67 S67 = G67 := by kernel_rfl
theorem c67 : FT Try.prog 67 S67 G67 := FT_fn tb_ok (ens_cons a100 c100 (ens_cons a101 c101 ens_nil)) mixed Try.func67 (by kernel_rfl) t67
theorem a67 : callable Try.prog 67 = true := by kernel_rfl

/- (*loop.example/g01083/impl.Category).isTerm -/
def S126 : Sig := ⟨[(false, (.ptr (.pair (.int .i64) (.pair (.sl (.int .i64)) (.pair (.sl (.int .i64)) (.pair (.sl (.int .i64)) (.sl (.sl (.int .i64))))))))), (false, (.ptr (.pair (.sl (.int .i64)) (.pair (.sl (.pair (.int .i64) (.int .i64))) (.pair (.sl (.pair (.int .i64) (.int .i64))) (.sl (.int .i64))))))), (true, (.pair (.int .i64) (.int .i64)))], [(false, 0, .bool)]⟩
noncomputable def E126 : Env2 := ⟨⟨TB, [⟨73, S73, G73⟩, ⟨104, S104, G104⟩], ⟨43, [5], 0⟩⟩, [], []⟩
noncomputable def G126 (x : ((Int × ((List Int) × ((List Int) × ((List Int) × (List (List Int)))))) × (((List Int) × ((List (Int × Int)) × ((List (Int × Int)) × (List Int)))) × (Int × Int)))) : Option Bool := (Option.bind (G73 (x.2.2.1, ((0 : Int), (IntKind.wrap .i64 (((x.2.1.1.length : Nat) : Int) - (1 : Int)))))) (fun (v0 : Bool) => (Option.bind (bif v0 then (Option.bind (G104 x.1) (fun (v1 : Int) => (Option.bind (G73 (x.2.2.2, ((0 : Int), (IntKind.wrap .i64 (v1 - (1 : Int)))))) (fun (v2 : Bool) => (some v2))))) else (some false)) (fun (v1 : Bool) => (Option.bind (bif v1 then (if (((0 : Int) ≤ x.2.2.2) ∧ (x.2.2.2 < ((x.1.2.1.length : Nat) : Int))) then (if (((0 : Int) ≤ x.2.2.1) ∧ (x.2.2.1 < ((x.2.1.1.length : Nat) : Int))) then (some (decide ((x.1.2.1.getD (x.2.2.2).toNat (0 : Int)) = (x.2.1.1.getD (x.2.2.1).toNat (0 : Int))))) else none) else none) else (some false)) (fun (v2 : Bool) => (some v2)))))))
theorem t126 : tfn E126 Try.f126 S126 = G126 := by kernel_rfl
theorem c126 : FT Try.prog 126 S126 G126 := FT_fn tb_ok (ens_cons a73 c73 (ens_cons a104 c104 ens_nil)) mixed Try.func126 (by kernel_rfl) t126
theorem a126 : callable Try.prog 126 = true := by kernel_rfl

/- (*loop.example/g01083/impl.Category).isCondition -/
def S112 : Sig := ⟨[(false, (.ptr (.pair (.int .i64) (.pair (.sl (.int .i64)) (.pair (.sl (.int .i64)) (.pair (.sl (.int .i64)) (.sl (.sl (.int .i64))))))))), (false, (.ptr (.pair (.sl (.int .i64)) (.pair (.sl (.pair (.int .i64) (.int .i64))) (.pair (.sl (.pair (.int .i64) (.int .i64))) (.sl (.int .i64))))))), (true, (.pair (.int .i64) (.int .i64))), (true, (.pair (.int .i64) (.int .i64)))], [(false, 0, .bool)]⟩
noncomputable def E112 : Env2 := ⟨⟨TB, [⟨126, S126, G126⟩], ⟨38, [6, 7], 0⟩⟩, [], []⟩
noncomputable def G112 (x : ((Int × ((List Int) × ((List Int) × ((List Int) × (List (List Int)))))) × (((List Int) × ((List (Int × Int)) × ((List (Int × Int)) × (List Int)))) × ((Int × Int) × (Int × Int))))) : Option Bool := (Option.bind (G126 (x.1, (x.2.1, (x.2.2.1.1, x.2.2.1.2)))) (fun (v0 : Bool) => (Option.bind (bif v0 then (Option.bind (G126 (x.1, (x.2.1, (x.2.2.2.1, x.2.2.2.2)))) (fun (v1 : Bool) => (some v1))) else (some false)) (fun (v1 : Bool) => (Option.bind (bif v1 then (if (((0 : Int) ≤ x.2.2.1.2) ∧ (x.2.2.1.2 < ((x.1.2.2.1.length : Nat) : Int))) then (if (((0 : Int) ≤ x.2.2.2.2) ∧ (x.2.2.2.2 < ((x.1.2.2.1.length : Nat) : Int))) then (some (decide ((x.1.2.2.1.getD (x.2.2.1.2).toNat (0 : Int)) = (x.1.2.2.1.getD (x.2.2.2.2).toNat (0 : Int))))) else none) else none) else (some false)) (fun (v2 : Bool) => (some v2)))))))
theorem t112 : tfn E112 Try.f112 S112 = G112 := by kernel_rfl
theorem c112 : FT Try.prog 112 S112 G112 := FT_fn tb_ok (ens_cons a126 c126 ens_nil) mixed Try.func112 (by kernel_rfl) t112
theorem a112 : callable Try.prog 112 = true := by kernel_rfl

/- (*loop.example/g01083/impl.Category).isQuery -/
def S85 : Sig := ⟨[(false, (.ptr (.pair (.int .i64) (.pair (.sl (.int .i64)) (.pair (.sl (.int .i64)) (.pair (.sl (.int .i64)) (.sl (.sl (.int .i64))))))))), (false, (.ptr (.pair (.sl (.int .i64)) (.pair (.sl (.pair (.int .i64) (.int .i64))) (.pair (.sl (.pair (.int .i64) (.int .i64))) (.sl (.int .i64)))))))], [(false, 0, .bool)]⟩
noncomputable def E85 : Env2 := ⟨⟨TB, [⟨111, S111, G111⟩, ⟨112, S112, G112⟩], ⟨90, [], 0⟩⟩, [(4, [50], [])], []⟩
noncomputable def G85 (x : ((Int × ((List Int) × ((List Int) × ((List Int) × (List (List Int)))))) × ((List Int) × ((List (Int × Int)) × ((List (Int × Int)) × (List Int)))))) : Option Bool := (Option.bind (bif (decide ((4 : Int) < ((x.2.1.length : Nat) : Int))) then (some true) else (Option.bind (G111 (x.2.1, x.1.1)) (fun (v0 : Bool) => (some (!v0))))) (fun (v0 : Bool) => (Option.bind (bif v0 then (some true) else (some (decide ((6 : Int) < ((x.2.2.1.length : Nat) : Int))))) (fun (v1 : Bool) => (Option.bind (bif v1 then (some true) else (some (!decide (((x.2.2.2.1.length : Nat) : Int) = ((x.2.2.1.length : Nat) : Int))))) (fun (v2 : Bool) => (bif v2 then (some false) else (Option.bind (tloop (fun (v3 : Int) => (bif (decide (v3 < ((x.2.2.1.length : Nat) : Int))) then (if (((0 : Int) ≤ v3) ∧ (v3 < ((x.2.2.1.length : Nat) : Int))) then (if (((0 : Int) ≤ v3) ∧ (v3 < ((x.2.2.2.1.length : Nat) : Int))) then (Option.bind (G112 (x.1, (x.2, (((x.2.2.1.getD (v3).toNat ((0 : Int), (0 : Int))).1, (x.2.2.1.getD (v3).toNat ((0 : Int), (0 : Int))).2), ((x.2.2.2.1.getD (v3).toNat ((0 : Int), (0 : Int))).1, (x.2.2.2.1.getD (v3).toNat ((0 : Int), (0 : Int))).2))))) (fun (v4 : Bool) => (bif (!v4) then (retM (some false)) else (some (LO.next (IntKind.wrap .i64 (v3 + (1 : Int)))))))) else none) else none) else (some (LO.brk 0 v3)))) (0 : Int)) (LO.fin fun i3 (v3 : Int) => (if i3 = 0 then (Option.bind (bif (decide (((x.2.2.2.2.length : Nat) : Int) ≤ (4 : Int))) then (Option.bind (G111 (x.2.2.2.2, ((x.2.1.length : Nat) : Int))) (fun (v4 : Bool) => (some v4))) else (some false)) (fun (v4 : Bool) => (some v4))) else none))))))))))
theorem t85 : tfn E85 Try.f85 S85 = G85 := by kernel_rfl
theorem c85 : FT Try.prog 85 S85 G85 := FT_fn tb_ok (ens_cons a111 c111 (ens_cons a112 c112 ens_nil)) mixed Try.func85 (by kernel_rfl) t85
theorem a85 : callable Try.prog 85 = true := by kernel_rfl

/- loop.example/g01083/impl.areQueries -/
def S64 : Sig := ⟨[(false, (.ptr (.pair (.int .i64) (.pair (.sl (.int .i64)) (.pair (.sl (.int .i64)) (.pair (.sl (.int .i64)) (.sl (.sl (.int .i64))))))))), (false, (.sl (.ptr (.pair (.sl (.int .i64)) (.pair (.sl (.pair (.int .i64) (.int .i64))) (.pair (.sl (.pair (.int .i64) (.int .i64))) (.sl (.int .i64))))))))], [(false, 0, .bool)]⟩
noncomputable def E64 : Env2 := ⟨⟨TB, [⟨67, S67, G67⟩, ⟨85, S85, G85⟩], ⟨21, [], 0⟩⟩, [(4, [12], [])], []⟩
noncomputable def G64 (x : ((Int × ((List Int) × ((List Int) × ((List Int) × (List (List Int)))))) × (List ((List Int) × ((List (Int × Int)) × ((List (Int × Int)) × (List Int))))))) : Option Bool := (Option.bind (G67 x.1) (fun (v0 : Bool) => (bif (!v0) then (some false) else (Option.bind (tloop (fun (v1 : Int) => (bif (decide (v1 < ((x.2.length : Nat) : Int))) then (if (((0 : Int) ≤ v1) ∧ (v1 < ((x.2.length : Nat) : Int))) then (Option.bind (G85 (x.1, (x.2.getD (v1).toNat ([], ([], ([], [])))))) (fun (v2 : Bool) => (bif (!v2) then (retM (some false)) else (some (LO.next (IntKind.wrap .i64 (v1 + (1 : Int)))))))) else none) else (some (LO.brk 0 v1)))) (0 : Int)) (LO.fin fun i1 (v1 : Int) => (if i1 = 0 then (some true) else none))))))
theorem t64 : tfn E64 Try.f64 S64 = G64 := by kernel_rfl
theorem c64 : FT Try.prog 64 S64 G64 := FT_fn tb_ok (ens_cons a67 c67 (ens_cons a85 c85 ens_nil)) mixed Try.func64 (by kernel_rfl) t64
theorem a64 : callable Try.prog 64 = true := by kernel_rfl

/- loop.example/g01083/impl.IsQuery -/
def S16 : Sig := ⟨[(true, (.pair (.int .i64) (.pair (.sl (.int .i64)) (.pair (.sl (.int .i64)) (.pair (.sl (.int .i64)) (.sl (.sl (.int .i64)))))))), (true, (.pair (.sl (.int .i64)) (.pair (.sl (.pair (.int .i64) (.int .i64))) (.pair (.sl (.pair (.int .i64) (.int .i64))) (.sl (.int .i64))))))], [(false, 0, .bool)]⟩
noncomputable def E16 : Env2 := ⟨⟨TB, [⟨64, S64, G64⟩], ⟨7, [2, 3], 0⟩⟩, [], []⟩
noncomputable def G16 (x : ((Int × ((List Int) × ((List Int) × ((List Int) × (List (List Int)))))) × ((List Int) × ((List (Int × Int)) × ((List (Int × Int)) × (List Int)))))) : Option Bool := (Option.bind (G64 ((x.1.1, (x.1.2.1, (x.1.2.2.1, (x.1.2.2.2.1, x.1.2.2.2.2)))), ((x.2.1, (x.2.2.1, (x.2.2.2.1, x.2.2.2.2))) :: []))) (fun (v0 : Bool) => (some v0)))
theorem t16 : tfn E16 Try.f16 S16 = G16 := by kernel_rfl
theorem c16 : FT Try.prog 16 S16 G16 := FT_fn tb_ok (ens_cons a64 c64 ens_nil) mixed Try.func16 (by kernel_rfl) t16
theorem a16 : callable Try.prog 16 = true := by kernel_rfl

/- loop.example/g01083/laws.eqInt64S -/
def S52 : Sig := ⟨[(false, (.sl (.int .i64))), (false, (.sl (.int .i64)))], [(false, 0, .bool)]⟩
noncomputable def E52 : Env2 := ⟨⟨TB, [], ⟨26, [], 0⟩⟩, [(4, [5], [])], []⟩
noncomputable def G52 (x : ((List Int) × (List Int))) : Option Bool := (bif (!decide (((x.1.length : Nat) : Int) = ((x.2.length : Nat) : Int))) then (some false) else (Option.bind (tloop (fun (v0 : Int) => (bif (decide (v0 < ((x.1.length : Nat) : Int))) then (if (((0 : Int) ≤ v0) ∧ (v0 < ((x.1.length : Nat) : Int))) then (if (((0 : Int) ≤ v0) ∧ (v0 < ((x.2.length : Nat) : Int))) then (bif (!decide ((x.1.getD (v0).toNat (0 : Int)) = (x.2.getD (v0).toNat (0 : Int)))) then (retM (some false)) else (some (LO.next (IntKind.wrap .i64 (v0 + (1 : Int)))))) else none) else none) else (some (LO.brk 0 v0)))) (0 : Int)) (LO.fin fun i0 (v0 : Int) => (if i0 = 0 then (some true) else none))))
theorem t52 : tfn E52 Try.f52 S52 = G52 := by kernel_rfl
theorem c52 : FT Try.prog 52 S52 G52 := FT_fn tb_ok ens_nil mixed Try.func52 (by kernel_rfl) t52
theorem a52 : callable Try.prog 52 = true := by kernel_rfl

/- loop.example/g01083/laws.eqInt64SS -/
def S51 : Sig := ⟨[(false, (.sl (.sl (.int .i64)))), (false, (.sl (.sl (.int .i64))))], [(false, 0, .bool)]⟩
noncomputable def E51 : Env2 := ⟨⟨TB, [⟨52, S52, G52⟩], ⟨27, [], 0⟩⟩, [(4, [5], [])], []⟩
noncomputable def G51 (x : ((List (List Int)) × (List (List Int)))) : Option Bool := (bif (!decide (((x.1.length : Nat) : Int) = ((x.2.length : Nat) : Int))) then (some false) else (Option.bind (tloop (fun (v0 : Int) => (bif (decide (v0 < ((x.1.length : Nat) : Int))) then (if (((0 : Int) ≤ v0) ∧ (v0 < ((x.1.length : Nat) : Int))) then (if (((0 : Int) ≤ v0) ∧ (v0 < ((x.2.length : Nat) : Int))) then (Option.bind (G52 ((x.1.getD (v0).toNat []), (x.2.getD (v0).toNat []))) (fun (v1 : Bool) => (bif (!v1) then (retM (some false)) else (some (LO.next (IntKind.wrap .i64 (v0 + (1 : Int)))))))) else none) else none) else (some (LO.brk 0 v0)))) (0 : Int)) (LO.fin fun i0 (v0 : Int) => (if i0 = 0 then (some true) else none))))
theorem t51 : tfn E51 Try.f51 S51 = G51 := by kernel_rfl
theorem c51 : FT Try.prog 51 S51 G51 := FT_fn tb_ok (ens_cons a52 c52 ens_nil) mixed Try.func51 (by kernel_rfl) t51
theorem a51 : callable Try.prog 51 = true := by kernel_rfl

/- loop.example/g01083/laws.eqCategory -/
def S17 : Sig := ⟨[(true, (.pair (.int .i64) (.pair (.sl (.int .i64)) (.pair (.sl (.int .i64)) (.pair (.sl (.int .i64)) (.sl (.sl (.int .i64)))))))), (true, (.pair (.int .i64) (.pair (.sl (.int .i64)) (.pair (.sl (.int .i64)) (.pair (.sl (.int .i64)) (.sl (.sl (.int .i64))))))))], [(false, 0, .bool)]⟩
noncomputable def E17 : Env2 := ⟨⟨TB, [⟨52, S52, G52⟩, ⟨51, S51, G51⟩], ⟨34, [2, 3], 0⟩⟩, [], []⟩
noncomputable def G17 (x : ((Int × ((List Int) × ((List Int) × ((List Int) × (List (List Int)))))) × (Int × ((List Int) × ((List Int) × ((List Int) × (List (List Int)))))))) : Option Bool := (bif (!decide (x.1.1 = x.2.1)) then (some false) else (Option.bind (G52 (x.1.2.1, x.2.2.1)) (fun (v0 : Bool) => (bif (!v0) then (some false) else (Option.bind (G52 (x.1.2.2.1, x.2.2.2.1)) (fun (v1 : Bool) => (bif (!v1) then (some false) else (Option.bind (G52 (x.1.2.2.2.1, x.2.2.2.2.1)) (fun (v2 : Bool) => (bif (!v2) then (some false) else (Option.bind (G51 (x.1.2.2.2.2, x.2.2.2.2.2)) (fun (v3 : Bool) => (bif (!v3) then (some false) else (some true))))))))))))))
theorem t17 : tfn E17 Try.f17 S17 = G17 := by kernel_rfl
theorem c17 : FT Try.prog 17 S17 G17 := FT_fn tb_ok (ens_cons a52 c52 (ens_cons a51 c51 ens_nil)) mixed Try.func17 (by kernel_rfl) t17
theorem a17 : callable Try.prog 17 = true := by kernel_rfl

/- loop.example/g01083/laws.eqTerm -/
def S98 : Sig := ⟨[(true, (.pair (.int .i64) (.int .i64))), (true, (.pair (.int .i64) (.int .i64)))], [(false, 0, .bool)]⟩
noncomputable def E98 : Env2 := ⟨⟨TB, [], ⟨15, [2, 3], 0⟩⟩, [], []⟩
noncomputable def G98 (x : ((Int × Int) × (Int × Int))) : Option Bool := (bif (!decide (x.1.1 = x.2.1)) then (some false) else (bif (!decide (x.1.2 = x.2.2)) then (some false) else (some true)))
theorem t98 : tfn E98 Try.f98 S98 = G98 := by kernel_rfl
theorem c98 : FT Try.prog 98 S98 G98 := FT_fn tb_ok ens_nil mixed Try.func98 (by kernel_rfl) t98
theorem a98 : callable Try.prog 98 = true := by kernel_rfl

/- loop.example/g01083/laws.eqTermS -/
def S65 : Sig := ⟨[(false, (.sl (.pair (.int .i64) (.int .i64)))), (false, (.sl (.pair (.int .i64) (.int .i64))))], [(false, 0, .bool)]⟩
noncomputable def E65 : Env2 := ⟨⟨TB, [⟨98, S98, G98⟩], ⟨27, [], 0⟩⟩, [(4, [5], [])], []⟩
noncomputable def G65 (x : ((List (Int × Int)) × (List (Int × Int)))) : Option Bool := (bif (!decide (((x.1.length : Nat) : Int) = ((x.2.length : Nat) : Int))) then (some false) else (Option.bind (tloop (fun (v0 : Int) => (bif (decide (v0 < ((x.1.length : Nat) : Int))) then (if (((0 : Int) ≤ v0) ∧ (v0 < ((x.1.length : Nat) : Int))) then (if (((0 : Int) ≤ v0) ∧ (v0 < ((x.2.length : Nat) : Int))) then (Option.bind (G98 (((x.1.getD (v0).toNat ((0 : Int), (0 : Int))).1, (x.1.getD (v0).toNat ((0 : Int), (0 : Int))).2), ((x.2.getD (v0).toNat ((0 : Int), (0 : Int))).1, (x.2.getD (v0).toNat ((0 : Int), (0 : Int))).2))) (fun (v1 : Bool) => (bif (!v1) then (retM (some false)) else (some (LO.next (IntKind.wrap .i64 (v0 + (1 : Int)))))))) else none) else none) else (some (LO.brk 0 v0)))) (0 : Int)) (LO.fin fun i0 (v0 : Int) => (if i0 = 0 then (some true) else none))))
theorem t65 : tfn E65 Try.f65 S65 = G65 := by kernel_rfl
theorem c65 : FT Try.prog 65 S65 G65 := FT_fn tb_ok (ens_cons a98 c98 ens_nil) mixed Try.func65 (by kernel_rfl) t65
theorem a65 : callable Try.prog 65 = true := by kernel_rfl

/- loop.example/g01083/laws.eqQuery -/
def S18 : Sig := ⟨[(true, (.pair (.sl (.int .i64)) (.pair (.sl (.pair (.int .i64) (.int .i64))) (.pair (.sl (.pair (.int .i64) (.int .i64))) (.sl (.int .i64)))))), (true, (.pair (.sl (.int .i64)) (.pair (.sl (.pair (.int .i64) (.int .i64))) (.pair (.sl (.pair (.int .i64) (.int .i64))) (.sl (.int .i64))))))], [(false, 0, .bool)]⟩
noncomputable def E18 : Env2 := ⟨⟨TB, [⟨52, S52, G52⟩, ⟨65, S65, G65⟩], ⟨29, [2, 3], 0⟩⟩, [], []⟩
noncomputable def G18 (x : (((List Int) × ((List (Int × Int)) × ((List (Int × Int)) × (List Int)))) × ((List Int) × ((List (Int × Int)) × ((List (Int × Int)) × (List Int)))))) : Option Bool := (Option.bind (G52 (x.1.1, x.2.1)) (fun (v0 : Bool) => (bif (!v0) then (some false) else (Option.bind (G65 (x.1.2.1, x.2.2.1)) (fun (v1 : Bool) => (bif (!v1) then (some false) else (Option.bind (G65 (x.1.2.2.1, x.2.2.2.1)) (fun (v2 : Bool) => (bif (!v2) then (some false) else (Option.bind (G52 (x.1.2.2.2, x.2.2.2.2)) (fun (v3 : Bool) => (bif (!v3) then (some false) else (some true)))))))))))))
theorem t18 : tfn E18 Try.f18 S18 = G18 := by kernel_rfl
theorem c18 : FT Try.prog 18 S18 G18 := FT_fn tb_ok (ens_cons a52 c52 (ens_cons a65 c65 ens_nil)) mixed Try.func18 (by kernel_rfl) t18
theorem a18 : callable Try.prog 18 = true := by kernel_rfl

/- loop.example/g01083/laws.FnExactIsQuery -/
def S3 : Sig := ⟨[(true, (.pair (.int .i64) (.pair (.sl (.int .i64)) (.pair (.sl (.int .i64)) (.pair (.sl (.int .i64)) (.sl (.sl (.int .i64)))))))), (true, (.pair (.sl (.int .i64)) (.pair (.sl (.pair (.int .i64) (.int .i64))) (.pair (.sl (.pair (.int .i64) (.int .i64))) (.sl (.int .i64))))))], [(false, 0, .bool)]⟩
noncomputable def E3 : Env2 := ⟨⟨TB, [⟨11, S11, G11⟩, ⟨12, S12, G12⟩, ⟨14, S14, G14⟩, ⟨15, S15, G15⟩, ⟨13, S13, G13⟩, ⟨16, S16, G16⟩, ⟨17, S17, G17⟩, ⟨18, S18, G18⟩], ⟨45, [2, 3], 0⟩⟩, [], []⟩
noncomputable def G3 (x : ((Int × ((List Int) × ((List Int) × ((List Int) × (List (List Int)))))) × ((List Int) × ((List (Int × Int)) × ((List (Int × Int)) × (List Int)))))) : Option Bool := (Option.bind (G11 ((x.1.1, (x.1.2.1, (x.1.2.2.1, (x.1.2.2.2.1, x.1.2.2.2.2)))), (1048576 : Int))) (fun (v0 : Int) => (bif (decide (v0 < (0 : Int))) then (some true) else (Option.bind (G12 ((x.2.1, (x.2.2.1, (x.2.2.2.1, x.2.2.2.2))), v0)) (fun (v1 : Int) => (bif (decide (v1 < (0 : Int))) then (some true) else (Option.bind (G14 (x.1.1, (x.1.2.1, (x.1.2.2.1, (x.1.2.2.2.1, x.1.2.2.2.2))))) (fun (v2 : (Int × ((List Int) × ((List Int) × ((List Int) × (List (List Int))))))) => (Option.bind (G15 (x.2.1, (x.2.2.1, (x.2.2.2.1, x.2.2.2.2)))) (fun (v3 : ((List Int) × ((List (Int × Int)) × ((List (Int × Int)) × (List Int))))) => (Option.bind (G13 ((v2.1, (v2.2.1, (v2.2.2.1, (v2.2.2.2.1, v2.2.2.2.2)))), (v3.1, (v3.2.1, (v3.2.2.1, v3.2.2.2))))) (fun (v4 : Bool) => (Option.bind (G14 (x.1.1, (x.1.2.1, (x.1.2.2.1, (x.1.2.2.2.1, x.1.2.2.2.2))))) (fun (v5 : (Int × ((List Int) × ((List Int) × ((List Int) × (List (List Int))))))) => (Option.bind (G15 (x.2.1, (x.2.2.1, (x.2.2.2.1, x.2.2.2.2)))) (fun (v6 : ((List Int) × ((List (Int × Int)) × ((List (Int × Int)) × (List Int))))) => (Option.bind (G16 ((v5.1, (v5.2.1, (v5.2.2.1, (v5.2.2.2.1, v5.2.2.2.2)))), (v6.1, (v6.2.1, (v6.2.2.1, v6.2.2.2))))) (fun (v7 : Bool) => (bif (!(v7 == v4)) then (some false) else (Option.bind (G14 (x.1.1, (x.1.2.1, (x.1.2.2.1, (x.1.2.2.2.1, x.1.2.2.2.2))))) (fun (v8 : (Int × ((List Int) × ((List Int) × ((List Int) × (List (List Int))))))) => (Option.bind (G17 ((v5.1, (v5.2.1, (v5.2.2.1, (v5.2.2.2.1, v5.2.2.2.2)))), (v8.1, (v8.2.1, (v8.2.2.1, (v8.2.2.2.1, v8.2.2.2.2)))))) (fun (v9 : Bool) => (bif (!v9) then (some false) else (Option.bind (G15 (x.2.1, (x.2.2.1, (x.2.2.2.1, x.2.2.2.2)))) (fun (v10 : ((List Int) × ((List (Int × Int)) × ((List (Int × Int)) × (List Int))))) => (Option.bind (G18 ((v6.1, (v6.2.1, (v6.2.2.1, v6.2.2.2))), (v10.1, (v10.2.1, (v10.2.2.1, v10.2.2.2))))) (fun (v11 : Bool) => (bif (!v11) then (some false) else (some true))))))))))))))))))))))))))))))
theorem t3 : tfn E3 Try.f3 S3 = G3 := by kernel_rfl
theorem c3 : FT Try.prog 3 S3 G3 := FT_fn tb_ok (ens_cons a11 c11 (ens_cons a12 c12 (ens_cons a14 c14 (ens_cons a15 c15 (ens_cons a13 c13 (ens_cons a16 c16 (ens_cons a17 c17 (ens_cons a18 c18 ens_nil)))))))) mixed Try.func3 (by kernel_rfl) t3
theorem a3 : callable Try.prog 3 = true := by kernel_rfl

end Go.Ve.D
