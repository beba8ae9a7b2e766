/-
  No cell of these rows narrows 'for every input' (looked for: loops, veiled, ifaces, maps, wideKeys, modest, calm, conditions, laid).
  DERIVED. THE GIVEN ROWS OF THIS SEAT. 8 by the template 'for every input the law returns true; each argument reads behind the call as it read before'; 0 by the template 'total and deterministic' (their statements: YtkafcpbbcpngdaaTotals.lean).
  GIVEN WITH THE SEED: the statements are not yours to turn. If you find one false, say at which input.
  Laid BY PROGRAM, IN A SANDBOX (cutbox-rows.mjs): the forced cells as the released guide's own fill.sh prints them over the translation 4075f963b604d549… (all of the seat's roots in one cut). By AI agents, Wed Nov 11 2026. No macro, syntax, notation, axiom, sorry.
-/
import Derived.Test.YtkafcpbbcpngdaaChecked
import GoSem.Claim
import GoSem.ClaimJoined
import GoSem.ClaimMapViews
import Derived.JoinedTies
import Derived.KernelRfl
namespace Go.Proofs.Ytkafcpbbcpngdaa
/- THE CELL 'sum', in the pinned program and in every row, IS THE sha256 OF THE DUMP (.gsa) THAT YtkafcpbbcpngdaaProg.lean LOADS. Nothing in Lean hashes anything: it is a label: what it is worth is what the hold of that sum in a sandbox is worth. -/
noncomputable def Try.pinned : Pinned := { name := "ytkafcpbbcpngdaa", sum := "4075f963b604d549ec47de16510f30c84526372e3ad183159cbb4d9a637291ff", checked := Try.checked }
namespace Rows
def none {H : Type} : Left H := { results := [], args := [] }

/-- 'laws.FnExactIsQuery': WHATEVER THE INPUT: true; the input reads as it did. -/
def fnExactIsQuerySpec : ChangeSpec := { name := "fnExactIsQuery", fn := fun _ => fun
  | [d1, d2] => { results := [.lit (.bool true)], args := [d1, d2] }
  | _ => none }
def fnExactIsQueryRow : OpenClaim := { program := "ytkafcpbbcpngdaa", sum := "4075f963b604d549ec47de16510f30c84526372e3ad183159cbb4d9a637291ff", func := "loop.example/g01083/laws.FnExactIsQuery", spec := "fnExactIsQuery", apart := false }
def FnExactIsQuerySaid : Prop := fnExactIsQueryRow.holds Try.pinned (OpenSpec.ofChange fnExactIsQuerySpec)

/-- ITS FALSE NEIGHBOUR: 'it returns false'. Refute it at one input. -/
def fnExactIsQueryWrong : ChangeSpec := { name := "fnExactIsQuery", fn := fun _ => fun
  | [d1, d2] => { results := [.lit (.bool false)], args := [d1, d2] }
  | _ => none }
def FnExactIsQueryWrongFalsely : Prop := fnExactIsQueryRow.holds Try.pinned (OpenSpec.ofChange fnExactIsQueryWrong)

/-- 'laws.FnExactIdentityFunctor': WHATEVER THE INPUT: true; the input reads as it did. -/
def fnExactIdentityFunctorSpec : ChangeSpec := { name := "fnExactIdentityFunctor", fn := fun _ => fun
  | [d] => { results := [.lit (.bool true)], args := [d] }
  | _ => none }
def fnExactIdentityFunctorRow : OpenClaim := { program := "ytkafcpbbcpngdaa", sum := "4075f963b604d549ec47de16510f30c84526372e3ad183159cbb4d9a637291ff", func := "loop.example/g01083/laws.FnExactIdentityFunctor", spec := "fnExactIdentityFunctor", apart := false }
def FnExactIdentityFunctorSaid : Prop := fnExactIdentityFunctorRow.holds Try.pinned (OpenSpec.ofChange fnExactIdentityFunctorSpec)

/-- ITS FALSE NEIGHBOUR: 'it returns false'. Refute it at one input. -/
def fnExactIdentityFunctorWrong : ChangeSpec := { name := "fnExactIdentityFunctor", fn := fun _ => fun
  | [d] => { results := [.lit (.bool false)], args := [d] }
  | _ => none }
def FnExactIdentityFunctorWrongFalsely : Prop := fnExactIdentityFunctorRow.holds Try.pinned (OpenSpec.ofChange fnExactIdentityFunctorWrong)

/-- 'laws.FnExactConstantSets': WHATEVER THE INPUT: true; the input reads as it did. -/
def fnExactConstantSetsSpec : ChangeSpec := { name := "fnExactConstantSets", fn := fun _ => fun
  | [d1, d2] => { results := [.lit (.bool true)], args := [d1, d2] }
  | _ => none }
def fnExactConstantSetsRow : OpenClaim := { program := "ytkafcpbbcpngdaa", sum := "4075f963b604d549ec47de16510f30c84526372e3ad183159cbb4d9a637291ff", func := "loop.example/g01083/laws.FnExactConstantSets", spec := "fnExactConstantSets", apart := false }
def FnExactConstantSetsSaid : Prop := fnExactConstantSetsRow.holds Try.pinned (OpenSpec.ofChange fnExactConstantSetsSpec)

/-- ITS FALSE NEIGHBOUR: 'it returns false'. Refute it at one input. -/
def fnExactConstantSetsWrong : ChangeSpec := { name := "fnExactConstantSets", fn := fun _ => fun
  | [d1, d2] => { results := [.lit (.bool false)], args := [d1, d2] }
  | _ => none }
def FnExactConstantSetsWrongFalsely : Prop := fnExactConstantSetsRow.holds Try.pinned (OpenSpec.ofChange fnExactConstantSetsWrong)

/-- 'laws.FnExactConstantFunctor': WHATEVER THE INPUT: true; the input reads as it did. -/
def fnExactConstantFunctorSpec : ChangeSpec := { name := "fnExactConstantFunctor", fn := fun _ => fun
  | [d1, d2, d3] => { results := [.lit (.bool true)], args := [d1, d2, d3] }
  | _ => none }
def fnExactConstantFunctorRow : OpenClaim := { program := "ytkafcpbbcpngdaa", sum := "4075f963b604d549ec47de16510f30c84526372e3ad183159cbb4d9a637291ff", func := "loop.example/g01083/laws.FnExactConstantFunctor", spec := "fnExactConstantFunctor", apart := false }
def FnExactConstantFunctorSaid : Prop := fnExactConstantFunctorRow.holds Try.pinned (OpenSpec.ofChange fnExactConstantFunctorSpec)

/-- ITS FALSE NEIGHBOUR: 'it returns false'. Refute it at one input. -/
def fnExactConstantFunctorWrong : ChangeSpec := { name := "fnExactConstantFunctor", fn := fun _ => fun
  | [d1, d2, d3] => { results := [.lit (.bool false)], args := [d1, d2, d3] }
  | _ => none }
def FnExactConstantFunctorWrongFalsely : Prop := fnExactConstantFunctorRow.holds Try.pinned (OpenSpec.ofChange fnExactConstantFunctorWrong)

/-- 'laws.FnExactIdentityMonad': WHATEVER THE INPUT: true; the input reads as it did. -/
def fnExactIdentityMonadSpec : ChangeSpec := { name := "fnExactIdentityMonad", fn := fun _ => fun
  | [d] => { results := [.lit (.bool true)], args := [d] }
  | _ => none }
def fnExactIdentityMonadRow : OpenClaim := { program := "ytkafcpbbcpngdaa", sum := "4075f963b604d549ec47de16510f30c84526372e3ad183159cbb4d9a637291ff", func := "loop.example/g01083/laws.FnExactIdentityMonad", spec := "fnExactIdentityMonad", apart := false }
def FnExactIdentityMonadSaid : Prop := fnExactIdentityMonadRow.holds Try.pinned (OpenSpec.ofChange fnExactIdentityMonadSpec)

/-- ITS FALSE NEIGHBOUR: 'it returns false'. Refute it at one input. -/
def fnExactIdentityMonadWrong : ChangeSpec := { name := "fnExactIdentityMonad", fn := fun _ => fun
  | [d] => { results := [.lit (.bool false)], args := [d] }
  | _ => none }
def FnExactIdentityMonadWrongFalsely : Prop := fnExactIdentityMonadRow.holds Try.pinned (OpenSpec.ofChange fnExactIdentityMonadWrong)

/-- 'laws.FnExactIdentityAdjunction': WHATEVER THE INPUT: true; the input reads as it did. -/
def fnExactIdentityAdjunctionSpec : ChangeSpec := { name := "fnExactIdentityAdjunction", fn := fun _ => fun
  | [d] => { results := [.lit (.bool true)], args := [d] }
  | _ => none }
def fnExactIdentityAdjunctionRow : OpenClaim := { program := "ytkafcpbbcpngdaa", sum := "4075f963b604d549ec47de16510f30c84526372e3ad183159cbb4d9a637291ff", func := "loop.example/g01083/laws.FnExactIdentityAdjunction", spec := "fnExactIdentityAdjunction", apart := false }
def FnExactIdentityAdjunctionSaid : Prop := fnExactIdentityAdjunctionRow.holds Try.pinned (OpenSpec.ofChange fnExactIdentityAdjunctionSpec)

/-- ITS FALSE NEIGHBOUR: 'it returns false'. Refute it at one input. -/
def fnExactIdentityAdjunctionWrong : ChangeSpec := { name := "fnExactIdentityAdjunction", fn := fun _ => fun
  | [d] => { results := [.lit (.bool false)], args := [d] }
  | _ => none }
def FnExactIdentityAdjunctionWrongFalsely : Prop := fnExactIdentityAdjunctionRow.holds Try.pinned (OpenSpec.ofChange fnExactIdentityAdjunctionWrong)

/-- 'laws.FnExactMoveQuery': WHATEVER THE INPUT: true; the input reads as it did. -/
def fnExactMoveQuerySpec : ChangeSpec := { name := "fnExactMoveQuery", fn := fun _ => fun
  | [d1, d2] => { results := [.lit (.bool true)], args := [d1, d2] }
  | _ => none }
def fnExactMoveQueryRow : OpenClaim := { program := "ytkafcpbbcpngdaa", sum := "4075f963b604d549ec47de16510f30c84526372e3ad183159cbb4d9a637291ff", func := "loop.example/g01083/laws.FnExactMoveQuery", spec := "fnExactMoveQuery", apart := false }
def FnExactMoveQuerySaid : Prop := fnExactMoveQueryRow.holds Try.pinned (OpenSpec.ofChange fnExactMoveQuerySpec)

/-- ITS FALSE NEIGHBOUR: 'it returns false'. Refute it at one input. -/
def fnExactMoveQueryWrong : ChangeSpec := { name := "fnExactMoveQuery", fn := fun _ => fun
  | [d1, d2] => { results := [.lit (.bool false)], args := [d1, d2] }
  | _ => none }
def FnExactMoveQueryWrongFalsely : Prop := fnExactMoveQueryRow.holds Try.pinned (OpenSpec.ofChange fnExactMoveQueryWrong)

/-- 'laws.FnExactFractionSpans': WHATEVER THE INPUT: true; the input reads as it did. -/
def fnExactFractionSpansSpec : ChangeSpec := { name := "fnExactFractionSpans", fn := fun _ => fun
  | [d1, d2, d3, d4] => { results := [.lit (.bool true)], args := [d1, d2, d3, d4] }
  | _ => none }
def fnExactFractionSpansRow : OpenClaim := { program := "ytkafcpbbcpngdaa", sum := "4075f963b604d549ec47de16510f30c84526372e3ad183159cbb4d9a637291ff", func := "loop.example/g01083/laws.FnExactFractionSpans", spec := "fnExactFractionSpans", apart := false }
def FnExactFractionSpansSaid : Prop := fnExactFractionSpansRow.holds Try.pinned (OpenSpec.ofChange fnExactFractionSpansSpec)

/-- ITS FALSE NEIGHBOUR: 'it returns false'. Refute it at one input. -/
def fnExactFractionSpansWrong : ChangeSpec := { name := "fnExactFractionSpans", fn := fun _ => fun
  | [d1, d2, d3, d4] => { results := [.lit (.bool false)], args := [d1, d2, d3, d4] }
  | _ => none }
def FnExactFractionSpansWrongFalsely : Prop := fnExactFractionSpansRow.holds Try.pinned (OpenSpec.ofChange fnExactFractionSpansWrong)

/- THE SECOND FORM. 'bulk': how many values and letters a reading holds, each counted each time it is reached (what is shared counts as often as it is met; a slice's spare places count too). A statement '..UptoSaid' is the law's where the arguments, and the package variables that the reading takes, are together of bulk at most 1048576: NARROWER than '..Said'. Prove '..Said' where nothing that the law and all that it calls make is longer than what came in: it says more and counts as full. Else prove '..UptoSaid'. A law counts once. -/
mutual
def uptoBulk {H : Type} : DataW H → Nat
  | .lit (.string bytes) => bytes.length + 1
  | .lit _ => 1
  | .nil => 1
  | .ptr d => uptoBulk d + 1
  | .slice elems spare => uptoBulkAll elems + uptoBulkAll spare + 1
  | .agg parts => uptoBulkAll parts + 1
  | .iface _ d => uptoBulk d + 1
  | .map entries => uptoBulkEntries entries + 1
  | .held _ => 1
def uptoBulkAll {H : Type} : List (DataW H) → Nat
  | [] => 0
  | d :: r => uptoBulk d + uptoBulkAll r
def uptoBulkEntries {H : Type} : List (Lit × DataW H) → Nat
  | [] => 0
  | x :: r => uptoBulkEntry x + uptoBulkEntries r
def uptoBulkEntry {H : Type} : Lit × DataW H → Nat
  | (.string bytes, d) => bytes.length + uptoBulk d + 1
  | (_, d) => uptoBulk d + 1
 end
def uptoSmall : (H : Type) → List (DataW H) → Bool := fun _ ds => decide (uptoBulkAll ds ≤ 1048576)
def OpenSpec.upto (s : _root_.Go.ChangeSpec) : _root_.Go.OpenSpec := { _root_.Go.OpenSpec.ofChange s with cond := some uptoSmall }

/-- 'laws.FnExactIsQuery', WHERE WHAT IT READS IS OF BULK AT MOST 1048576: true; the input reads as it did. -/
def fnExactIsQueryUptoRow : OpenClaim := { program := "ytkafcpbbcpngdaa", sum := "4075f963b604d549ec47de16510f30c84526372e3ad183159cbb4d9a637291ff", func := "loop.example/g01083/laws.FnExactIsQuery", spec := "fnExactIsQuery", apart := false, narrowed := true }
def FnExactIsQueryUptoSaid : Prop := fnExactIsQueryUptoRow.holds Try.pinned (OpenSpec.upto fnExactIsQuerySpec)

/-- 'laws.FnExactIdentityFunctor', WHERE WHAT IT READS IS OF BULK AT MOST 1048576: true; the input reads as it did. -/
def fnExactIdentityFunctorUptoRow : OpenClaim := { program := "ytkafcpbbcpngdaa", sum := "4075f963b604d549ec47de16510f30c84526372e3ad183159cbb4d9a637291ff", func := "loop.example/g01083/laws.FnExactIdentityFunctor", spec := "fnExactIdentityFunctor", apart := false, narrowed := true }
def FnExactIdentityFunctorUptoSaid : Prop := fnExactIdentityFunctorUptoRow.holds Try.pinned (OpenSpec.upto fnExactIdentityFunctorSpec)

/-- 'laws.FnExactConstantSets', WHERE WHAT IT READS IS OF BULK AT MOST 1048576: true; the input reads as it did. -/
def fnExactConstantSetsUptoRow : OpenClaim := { program := "ytkafcpbbcpngdaa", sum := "4075f963b604d549ec47de16510f30c84526372e3ad183159cbb4d9a637291ff", func := "loop.example/g01083/laws.FnExactConstantSets", spec := "fnExactConstantSets", apart := false, narrowed := true }
def FnExactConstantSetsUptoSaid : Prop := fnExactConstantSetsUptoRow.holds Try.pinned (OpenSpec.upto fnExactConstantSetsSpec)

/-- 'laws.FnExactConstantFunctor', WHERE WHAT IT READS IS OF BULK AT MOST 1048576: true; the input reads as it did. -/
def fnExactConstantFunctorUptoRow : OpenClaim := { program := "ytkafcpbbcpngdaa", sum := "4075f963b604d549ec47de16510f30c84526372e3ad183159cbb4d9a637291ff", func := "loop.example/g01083/laws.FnExactConstantFunctor", spec := "fnExactConstantFunctor", apart := false, narrowed := true }
def FnExactConstantFunctorUptoSaid : Prop := fnExactConstantFunctorUptoRow.holds Try.pinned (OpenSpec.upto fnExactConstantFunctorSpec)

/-- 'laws.FnExactIdentityMonad', WHERE WHAT IT READS IS OF BULK AT MOST 1048576: true; the input reads as it did. -/
def fnExactIdentityMonadUptoRow : OpenClaim := { program := "ytkafcpbbcpngdaa", sum := "4075f963b604d549ec47de16510f30c84526372e3ad183159cbb4d9a637291ff", func := "loop.example/g01083/laws.FnExactIdentityMonad", spec := "fnExactIdentityMonad", apart := false, narrowed := true }
def FnExactIdentityMonadUptoSaid : Prop := fnExactIdentityMonadUptoRow.holds Try.pinned (OpenSpec.upto fnExactIdentityMonadSpec)

/-- 'laws.FnExactIdentityAdjunction', WHERE WHAT IT READS IS OF BULK AT MOST 1048576: true; the input reads as it did. -/
def fnExactIdentityAdjunctionUptoRow : OpenClaim := { program := "ytkafcpbbcpngdaa", sum := "4075f963b604d549ec47de16510f30c84526372e3ad183159cbb4d9a637291ff", func := "loop.example/g01083/laws.FnExactIdentityAdjunction", spec := "fnExactIdentityAdjunction", apart := false, narrowed := true }
def FnExactIdentityAdjunctionUptoSaid : Prop := fnExactIdentityAdjunctionUptoRow.holds Try.pinned (OpenSpec.upto fnExactIdentityAdjunctionSpec)

/-- 'laws.FnExactMoveQuery', WHERE WHAT IT READS IS OF BULK AT MOST 1048576: true; the input reads as it did. -/
def fnExactMoveQueryUptoRow : OpenClaim := { program := "ytkafcpbbcpngdaa", sum := "4075f963b604d549ec47de16510f30c84526372e3ad183159cbb4d9a637291ff", func := "loop.example/g01083/laws.FnExactMoveQuery", spec := "fnExactMoveQuery", apart := false, narrowed := true }
def FnExactMoveQueryUptoSaid : Prop := fnExactMoveQueryUptoRow.holds Try.pinned (OpenSpec.upto fnExactMoveQuerySpec)

/-- 'laws.FnExactFractionSpans', WHERE WHAT IT READS IS OF BULK AT MOST 1048576: true; the input reads as it did. -/
def fnExactFractionSpansUptoRow : OpenClaim := { program := "ytkafcpbbcpngdaa", sum := "4075f963b604d549ec47de16510f30c84526372e3ad183159cbb4d9a637291ff", func := "loop.example/g01083/laws.FnExactFractionSpans", spec := "fnExactFractionSpans", apart := false, narrowed := true }
def FnExactFractionSpansUptoSaid : Prop := fnExactFractionSpansUptoRow.holds Try.pinned (OpenSpec.upto fnExactFractionSpansSpec)

end Rows
end Go.Proofs.Ytkafcpbbcpngdaa
