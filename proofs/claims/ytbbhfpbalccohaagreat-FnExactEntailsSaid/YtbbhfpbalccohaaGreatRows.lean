/-
  No cell of these rows narrows 'for every input' (looked for: loops, veiled, ifaces, maps, wideKeys, modest, calm, conditions, laid).
  DERIVED. THE GIVEN ROWS OF THIS SEAT. 8 by the template 'for every input the law returns true; each argument reads behind the call as it read before'; 0 by the template 'total and deterministic' (their statements: YtbbhfpbalccohaaGreatTotals.lean).
  GIVEN WITH THE SEED: the statements are not yours to turn. If you find one false, say at which input.
  Laid BY PROGRAM, IN A SANDBOX (cutbox-rows.mjs): the forced cells as the released guide's own fill.sh prints them over the translation 0bf4b159fa4ddd7e… (all of the seat's roots in one cut). By AI agents, Wed Nov 11 2026. No macro, syntax, notation, axiom, sorry.
-/
import Derived.Test.YtbbhfpbalccohaaGreatChecked
import GoSem.Claim
import GoSem.ClaimJoined
import GoSem.ClaimMapViews
import Derived.JoinedTies
import Derived.KernelRfl
namespace Go.Proofs.YtbbhfpbalccohaaGreat
/- THE CELL 'sum', in the pinned program and in every row, IS THE sha256 OF THE DUMP (.gsa) THAT YtbbhfpbalccohaaGreatProg.lean LOADS. Nothing in Lean hashes anything: it is a label: what it is worth is what the hold of that sum in a sandbox is worth. -/
noncomputable def Tryz.pinned : Pinned := { name := "ytbbhfpbalccohaagreat", sum := "0bf4b159fa4ddd7e0435454a15aae4c85802d249a6a34196d509c57433a8d57b", checked := Tryz.checked }
namespace Rows
def none {H : Type} : Left H := { results := [], args := [] }

/-- 'laws.FnExactFormulaValue': WHATEVER THE INPUT: true; the input reads as it did. -/
def fnExactFormulaValueSpec : ChangeSpec := { name := "fnExactFormulaValue", fn := fun _ => fun
  | [d1, d2, d3] => { results := [.lit (.bool true)], args := [d1, d2, d3] }
  | _ => none }
def fnExactFormulaValueRow : OpenClaim := { program := "ytbbhfpbalccohaagreat", sum := "0bf4b159fa4ddd7e0435454a15aae4c85802d249a6a34196d509c57433a8d57b", func := "loop.example/g01083/laws.FnExactFormulaValue", spec := "fnExactFormulaValue", unfollowed := true, recurses := true, apart := false }
def FnExactFormulaValueSaid : Prop := fnExactFormulaValueRow.holds Tryz.pinned (OpenSpec.ofChange fnExactFormulaValueSpec)

/-- ITS FALSE NEIGHBOUR: 'it returns false'. Refute it at one input. -/
def fnExactFormulaValueWrong : ChangeSpec := { name := "fnExactFormulaValue", fn := fun _ => fun
  | [d1, d2, d3] => { results := [.lit (.bool false)], args := [d1, d2, d3] }
  | _ => none }
def FnExactFormulaValueWrongFalsely : Prop := fnExactFormulaValueRow.holds Tryz.pinned (OpenSpec.ofChange fnExactFormulaValueWrong)

/-- 'laws.FnExactForces': WHATEVER THE INPUT: true; the input reads as it did. -/
def fnExactForcesSpec : ChangeSpec := { name := "fnExactForces", fn := fun _ => fun
  | [d1, d2, d3, d4, d5] => { results := [.lit (.bool true)], args := [d1, d2, d3, d4, d5] }
  | _ => none }
def fnExactForcesRow : OpenClaim := { program := "ytbbhfpbalccohaagreat", sum := "0bf4b159fa4ddd7e0435454a15aae4c85802d249a6a34196d509c57433a8d57b", func := "loop.example/g01083/laws.FnExactForces", spec := "fnExactForces", unfollowed := true, recurses := true, apart := false }
def FnExactForcesSaid : Prop := fnExactForcesRow.holds Tryz.pinned (OpenSpec.ofChange fnExactForcesSpec)

/-- ITS FALSE NEIGHBOUR: 'it returns false'. Refute it at one input. -/
def fnExactForcesWrong : ChangeSpec := { name := "fnExactForces", fn := fun _ => fun
  | [d1, d2, d3, d4, d5] => { results := [.lit (.bool false)], args := [d1, d2, d3, d4, d5] }
  | _ => none }
def FnExactForcesWrongFalsely : Prop := fnExactForcesRow.holds Tryz.pinned (OpenSpec.ofChange fnExactForcesWrong)

/-- 'laws.FnExactIsValidFormula': WHATEVER THE INPUT: true; the input reads as it did. -/
def fnExactIsValidFormulaSpec : ChangeSpec := { name := "fnExactIsValidFormula", fn := fun _ => fun
  | [d1, d2, d3] => { results := [.lit (.bool true)], args := [d1, d2, d3] }
  | _ => none }
def fnExactIsValidFormulaRow : OpenClaim := { program := "ytbbhfpbalccohaagreat", sum := "0bf4b159fa4ddd7e0435454a15aae4c85802d249a6a34196d509c57433a8d57b", func := "loop.example/g01083/laws.FnExactIsValidFormula", spec := "fnExactIsValidFormula", unfollowed := true, recurses := true, apart := false }
def FnExactIsValidFormulaSaid : Prop := fnExactIsValidFormulaRow.holds Tryz.pinned (OpenSpec.ofChange fnExactIsValidFormulaSpec)

/-- ITS FALSE NEIGHBOUR: 'it returns false'. Refute it at one input. -/
def fnExactIsValidFormulaWrong : ChangeSpec := { name := "fnExactIsValidFormula", fn := fun _ => fun
  | [d1, d2, d3] => { results := [.lit (.bool false)], args := [d1, d2, d3] }
  | _ => none }
def FnExactIsValidFormulaWrongFalsely : Prop := fnExactIsValidFormulaRow.holds Tryz.pinned (OpenSpec.ofChange fnExactIsValidFormulaWrong)

/-- 'laws.FnExactFirstFailure': WHATEVER THE INPUT: true; the input reads as it did. -/
def fnExactFirstFailureSpec : ChangeSpec := { name := "fnExactFirstFailure", fn := fun _ => fun
  | [d1, d2, d3] => { results := [.lit (.bool true)], args := [d1, d2, d3] }
  | _ => none }
def fnExactFirstFailureRow : OpenClaim := { program := "ytbbhfpbalccohaagreat", sum := "0bf4b159fa4ddd7e0435454a15aae4c85802d249a6a34196d509c57433a8d57b", func := "loop.example/g01083/laws.FnExactFirstFailure", spec := "fnExactFirstFailure", unfollowed := true, recurses := true, apart := false }
def FnExactFirstFailureSaid : Prop := fnExactFirstFailureRow.holds Tryz.pinned (OpenSpec.ofChange fnExactFirstFailureSpec)

/-- ITS FALSE NEIGHBOUR: 'it returns false'. Refute it at one input. -/
def fnExactFirstFailureWrong : ChangeSpec := { name := "fnExactFirstFailure", fn := fun _ => fun
  | [d1, d2, d3] => { results := [.lit (.bool false)], args := [d1, d2, d3] }
  | _ => none }
def FnExactFirstFailureWrongFalsely : Prop := fnExactFirstFailureRow.holds Tryz.pinned (OpenSpec.ofChange fnExactFirstFailureWrong)

/-- 'laws.FnExactTruthObjects': WHATEVER THE INPUT: true; the input reads as it did. -/
def fnExactTruthObjectsSpec : ChangeSpec := { name := "fnExactTruthObjects", fn := fun _ => fun
  | [d1, d2] => { results := [.lit (.bool true)], args := [d1, d2] }
  | _ => none }
def fnExactTruthObjectsRow : OpenClaim := { program := "ytbbhfpbalccohaagreat", sum := "0bf4b159fa4ddd7e0435454a15aae4c85802d249a6a34196d509c57433a8d57b", func := "loop.example/g01083/laws.FnExactTruthObjects", spec := "fnExactTruthObjects", unfollowed := true, recurses := true, apart := false }
def FnExactTruthObjectsSaid : Prop := fnExactTruthObjectsRow.holds Tryz.pinned (OpenSpec.ofChange fnExactTruthObjectsSpec)

/-- ITS FALSE NEIGHBOUR: 'it returns false'. Refute it at one input. -/
def fnExactTruthObjectsWrong : ChangeSpec := { name := "fnExactTruthObjects", fn := fun _ => fun
  | [d1, d2] => { results := [.lit (.bool false)], args := [d1, d2] }
  | _ => none }
def FnExactTruthObjectsWrongFalsely : Prop := fnExactTruthObjectsRow.holds Tryz.pinned (OpenSpec.ofChange fnExactTruthObjectsWrong)

/-- 'laws.FnExactDefinedRelation': WHATEVER THE INPUT: true; the input reads as it did. -/
def fnExactDefinedRelationSpec : ChangeSpec := { name := "fnExactDefinedRelation", fn := fun _ => fun
  | [d1, d2, d3] => { results := [.lit (.bool true)], args := [d1, d2, d3] }
  | _ => none }
def fnExactDefinedRelationRow : OpenClaim := { program := "ytbbhfpbalccohaagreat", sum := "0bf4b159fa4ddd7e0435454a15aae4c85802d249a6a34196d509c57433a8d57b", func := "loop.example/g01083/laws.FnExactDefinedRelation", spec := "fnExactDefinedRelation", unfollowed := true, recurses := true, apart := false }
def FnExactDefinedRelationSaid : Prop := fnExactDefinedRelationRow.holds Tryz.pinned (OpenSpec.ofChange fnExactDefinedRelationSpec)

/-- ITS FALSE NEIGHBOUR: 'it returns false'. Refute it at one input. -/
def fnExactDefinedRelationWrong : ChangeSpec := { name := "fnExactDefinedRelation", fn := fun _ => fun
  | [d1, d2, d3] => { results := [.lit (.bool false)], args := [d1, d2, d3] }
  | _ => none }
def FnExactDefinedRelationWrongFalsely : Prop := fnExactDefinedRelationRow.holds Tryz.pinned (OpenSpec.ofChange fnExactDefinedRelationWrong)

/-- 'laws.FnExactIsDecided': WHATEVER THE INPUT: true; the input reads as it did. -/
def fnExactIsDecidedSpec : ChangeSpec := { name := "fnExactIsDecided", fn := fun _ => fun
  | [d1, d2, d3] => { results := [.lit (.bool true)], args := [d1, d2, d3] }
  | _ => none }
def fnExactIsDecidedRow : OpenClaim := { program := "ytbbhfpbalccohaagreat", sum := "0bf4b159fa4ddd7e0435454a15aae4c85802d249a6a34196d509c57433a8d57b", func := "loop.example/g01083/laws.FnExactIsDecided", spec := "fnExactIsDecided", unfollowed := true, recurses := true, apart := false }
def FnExactIsDecidedSaid : Prop := fnExactIsDecidedRow.holds Tryz.pinned (OpenSpec.ofChange fnExactIsDecidedSpec)

/-- ITS FALSE NEIGHBOUR: 'it returns false'. Refute it at one input. -/
def fnExactIsDecidedWrong : ChangeSpec := { name := "fnExactIsDecided", fn := fun _ => fun
  | [d1, d2, d3] => { results := [.lit (.bool false)], args := [d1, d2, d3] }
  | _ => none }
def FnExactIsDecidedWrongFalsely : Prop := fnExactIsDecidedRow.holds Tryz.pinned (OpenSpec.ofChange fnExactIsDecidedWrong)

/-- 'laws.FnExactEntails': WHATEVER THE INPUT: true; the input reads as it did. -/
def fnExactEntailsSpec : ChangeSpec := { name := "fnExactEntails", fn := fun _ => fun
  | [d1, d2, d3, d4] => { results := [.lit (.bool true)], args := [d1, d2, d3, d4] }
  | _ => none }
def fnExactEntailsRow : OpenClaim := { program := "ytbbhfpbalccohaagreat", sum := "0bf4b159fa4ddd7e0435454a15aae4c85802d249a6a34196d509c57433a8d57b", func := "loop.example/g01083/laws.FnExactEntails", spec := "fnExactEntails", unfollowed := true, recurses := true, apart := false }
def FnExactEntailsSaid : Prop := fnExactEntailsRow.holds Tryz.pinned (OpenSpec.ofChange fnExactEntailsSpec)

/-- ITS FALSE NEIGHBOUR: 'it returns false'. Refute it at one input. -/
def fnExactEntailsWrong : ChangeSpec := { name := "fnExactEntails", fn := fun _ => fun
  | [d1, d2, d3, d4] => { results := [.lit (.bool false)], args := [d1, d2, d3, d4] }
  | _ => none }
def FnExactEntailsWrongFalsely : Prop := fnExactEntailsRow.holds Tryz.pinned (OpenSpec.ofChange fnExactEntailsWrong)

/- THE SECOND FORM. 'bulk': how many values and letters a reading holds, each counted each time it is reached (what is shared counts as often as it is met; a slice's spare places count too). A statement '..UptoSaid' is the law's where the arguments, and the package variables that the reading takes, are together of bulk at most 1048576: NARROWER than '..Said'. Prove '..Said' where nothing that the law and all that it calls make is longer than what came in: it says more and counts as full. Else prove '..UptoSaid'. A law counts once. -/
mutual
def uptoBulk {H : Type} : DataW H → Nat
  | .lit (.string bytes) => bytes.length + 1
  | .lit _ => 1
  | .nil => 1
  | .ptr d => uptoBulk d + 1
  | .slice elems spare => uptoBulkAll elems + uptoBulkAll spare + 1
  | .agg parts => uptoBulkAll parts + 1
  | .iface _ d => uptoBulk d + 1
  | .map entries => uptoBulkEntries entries + 1
  | .held _ => 1
def uptoBulkAll {H : Type} : List (DataW H) → Nat
  | [] => 0
  | d :: r => uptoBulk d + uptoBulkAll r
def uptoBulkEntries {H : Type} : List (Lit × DataW H) → Nat
  | [] => 0
  | x :: r => uptoBulkEntry x + uptoBulkEntries r
def uptoBulkEntry {H : Type} : Lit × DataW H → Nat
  | (.string bytes, d) => bytes.length + uptoBulk d + 1
  | (_, d) => uptoBulk d + 1
 end
def uptoSmall : (H : Type) → List (DataW H) → Bool := fun _ ds => decide (uptoBulkAll ds ≤ 1048576)
def OpenSpec.upto (s : _root_.Go.ChangeSpec) : _root_.Go.OpenSpec := { _root_.Go.OpenSpec.ofChange s with cond := some uptoSmall }

/-- 'laws.FnExactFormulaValue', WHERE WHAT IT READS IS OF BULK AT MOST 1048576: true; the input reads as it did. -/
def fnExactFormulaValueUptoRow : OpenClaim := { program := "ytbbhfpbalccohaagreat", sum := "0bf4b159fa4ddd7e0435454a15aae4c85802d249a6a34196d509c57433a8d57b", func := "loop.example/g01083/laws.FnExactFormulaValue", spec := "fnExactFormulaValue", unfollowed := true, recurses := true, apart := false, narrowed := true }
def FnExactFormulaValueUptoSaid : Prop := fnExactFormulaValueUptoRow.holds Tryz.pinned (OpenSpec.upto fnExactFormulaValueSpec)

/-- 'laws.FnExactForces', WHERE WHAT IT READS IS OF BULK AT MOST 1048576: true; the input reads as it did. -/
def fnExactForcesUptoRow : OpenClaim := { program := "ytbbhfpbalccohaagreat", sum := "0bf4b159fa4ddd7e0435454a15aae4c85802d249a6a34196d509c57433a8d57b", func := "loop.example/g01083/laws.FnExactForces", spec := "fnExactForces", unfollowed := true, recurses := true, apart := false, narrowed := true }
def FnExactForcesUptoSaid : Prop := fnExactForcesUptoRow.holds Tryz.pinned (OpenSpec.upto fnExactForcesSpec)

/-- 'laws.FnExactIsValidFormula', WHERE WHAT IT READS IS OF BULK AT MOST 1048576: true; the input reads as it did. -/
def fnExactIsValidFormulaUptoRow : OpenClaim := { program := "ytbbhfpbalccohaagreat", sum := "0bf4b159fa4ddd7e0435454a15aae4c85802d249a6a34196d509c57433a8d57b", func := "loop.example/g01083/laws.FnExactIsValidFormula", spec := "fnExactIsValidFormula", unfollowed := true, recurses := true, apart := false, narrowed := true }
def FnExactIsValidFormulaUptoSaid : Prop := fnExactIsValidFormulaUptoRow.holds Tryz.pinned (OpenSpec.upto fnExactIsValidFormulaSpec)

/-- 'laws.FnExactFirstFailure', WHERE WHAT IT READS IS OF BULK AT MOST 1048576: true; the input reads as it did. -/
def fnExactFirstFailureUptoRow : OpenClaim := { program := "ytbbhfpbalccohaagreat", sum := "0bf4b159fa4ddd7e0435454a15aae4c85802d249a6a34196d509c57433a8d57b", func := "loop.example/g01083/laws.FnExactFirstFailure", spec := "fnExactFirstFailure", unfollowed := true, recurses := true, apart := false, narrowed := true }
def FnExactFirstFailureUptoSaid : Prop := fnExactFirstFailureUptoRow.holds Tryz.pinned (OpenSpec.upto fnExactFirstFailureSpec)

/-- 'laws.FnExactTruthObjects', WHERE WHAT IT READS IS OF BULK AT MOST 1048576: true; the input reads as it did. -/
def fnExactTruthObjectsUptoRow : OpenClaim := { program := "ytbbhfpbalccohaagreat", sum := "0bf4b159fa4ddd7e0435454a15aae4c85802d249a6a34196d509c57433a8d57b", func := "loop.example/g01083/laws.FnExactTruthObjects", spec := "fnExactTruthObjects", unfollowed := true, recurses := true, apart := false, narrowed := true }
def FnExactTruthObjectsUptoSaid : Prop := fnExactTruthObjectsUptoRow.holds Tryz.pinned (OpenSpec.upto fnExactTruthObjectsSpec)

/-- 'laws.FnExactDefinedRelation', WHERE WHAT IT READS IS OF BULK AT MOST 1048576: true; the input reads as it did. -/
def fnExactDefinedRelationUptoRow : OpenClaim := { program := "ytbbhfpbalccohaagreat", sum := "0bf4b159fa4ddd7e0435454a15aae4c85802d249a6a34196d509c57433a8d57b", func := "loop.example/g01083/laws.FnExactDefinedRelation", spec := "fnExactDefinedRelation", unfollowed := true, recurses := true, apart := false, narrowed := true }
def FnExactDefinedRelationUptoSaid : Prop := fnExactDefinedRelationUptoRow.holds Tryz.pinned (OpenSpec.upto fnExactDefinedRelationSpec)

/-- 'laws.FnExactIsDecided', WHERE WHAT IT READS IS OF BULK AT MOST 1048576: true; the input reads as it did. -/
def fnExactIsDecidedUptoRow : OpenClaim := { program := "ytbbhfpbalccohaagreat", sum := "0bf4b159fa4ddd7e0435454a15aae4c85802d249a6a34196d509c57433a8d57b", func := "loop.example/g01083/laws.FnExactIsDecided", spec := "fnExactIsDecided", unfollowed := true, recurses := true, apart := false, narrowed := true }
def FnExactIsDecidedUptoSaid : Prop := fnExactIsDecidedUptoRow.holds Tryz.pinned (OpenSpec.upto fnExactIsDecidedSpec)

/-- 'laws.FnExactEntails', WHERE WHAT IT READS IS OF BULK AT MOST 1048576: true; the input reads as it did. -/
def fnExactEntailsUptoRow : OpenClaim := { program := "ytbbhfpbalccohaagreat", sum := "0bf4b159fa4ddd7e0435454a15aae4c85802d249a6a34196d509c57433a8d57b", func := "loop.example/g01083/laws.FnExactEntails", spec := "fnExactEntails", unfollowed := true, recurses := true, apart := false, narrowed := true }
def FnExactEntailsUptoSaid : Prop := fnExactEntailsUptoRow.holds Tryz.pinned (OpenSpec.upto fnExactEntailsSpec)

end Rows
end Go.Proofs.YtbbhfpbalccohaaGreat
