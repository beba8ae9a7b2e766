/-
  No cell of these rows narrows 'for every input' (looked for: loops, veiled, ifaces, maps, wideKeys, modest, calm, conditions, laid).
  DERIVED. THE GIVEN ROWS OF THIS SEAT. 5 by the template 'for every input the law returns true; each argument reads behind the call as it read before'; 0 by the template 'total and deterministic' (their statements: YtcdekmccongjgaaTotals.lean).
  GIVEN WITH THE SEED: the statements are not yours to turn. If you find one false, say at which input.
  Laid BY PROGRAM, IN A SANDBOX (cutbox-rows.mjs): the forced cells as the released guide's own fill.sh prints them over the translation 89baa675eb7792bd… (all of the seat's roots in one cut). By AI agents, Wed Nov 11 2026. No macro, syntax, notation, axiom, sorry.
-/
import Derived.Test.YtcdekmccongjgaaChecked
import GoSem.Claim
import GoSem.ClaimJoined
import GoSem.ClaimMapViews
import Derived.JoinedTies
import Derived.KernelRfl
namespace Go.Proofs.Ytcdekmccongjgaa
/- THE CELL 'sum', in the pinned program and in every row, IS THE sha256 OF THE DUMP (.gsa) THAT YtcdekmccongjgaaProg.lean LOADS. Nothing in Lean hashes anything: it is a label: what it is worth is what the hold of that sum in a sandbox is worth. -/
noncomputable def Try.pinned : Pinned := { name := "ytcdekmccongjgaa", sum := "89baa675eb7792bd1856eef66a70ad0cf5d280d4472fed02cee783c8c9b5f34c", checked := Try.checked }
namespace Rows
def none {H : Type} : Left H := { results := [], args := [] }

/-- 'laws.FnExactAmalgamationsOf': WHATEVER THE INPUT: true; the input reads as it did. -/
def fnExactAmalgamationsOfSpec : ChangeSpec := { name := "fnExactAmalgamationsOf", fn := fun _ => fun
  | [d1, d2, d3, d4] => { results := [.lit (.bool true)], args := [d1, d2, d3, d4] }
  | _ => none }
def fnExactAmalgamationsOfRow : OpenClaim := { program := "ytcdekmccongjgaa", sum := "89baa675eb7792bd1856eef66a70ad0cf5d280d4472fed02cee783c8c9b5f34c", func := "loop.example/g01083/laws.FnExactAmalgamationsOf", spec := "fnExactAmalgamationsOf", plainKeys := false, apart := false }
def FnExactAmalgamationsOfSaid : Prop := fnExactAmalgamationsOfRow.holds Try.pinned (OpenSpec.ofChange fnExactAmalgamationsOfSpec)

/-- ITS FALSE NEIGHBOUR: 'it returns false'. Refute it at one input. -/
def fnExactAmalgamationsOfWrong : ChangeSpec := { name := "fnExactAmalgamationsOf", fn := fun _ => fun
  | [d1, d2, d3, d4] => { results := [.lit (.bool false)], args := [d1, d2, d3, d4] }
  | _ => none }
def FnExactAmalgamationsOfWrongFalsely : Prop := fnExactAmalgamationsOfRow.holds Try.pinned (OpenSpec.ofChange fnExactAmalgamationsOfWrong)

/-- 'laws.FnExactUniversalElement': WHATEVER THE INPUT: true; the input reads as it did. -/
def fnExactUniversalElementSpec : ChangeSpec := { name := "fnExactUniversalElement", fn := fun _ => fun
  | [d1, d2] => { results := [.lit (.bool true)], args := [d1, d2] }
  | _ => none }
def fnExactUniversalElementRow : OpenClaim := { program := "ytcdekmccongjgaa", sum := "89baa675eb7792bd1856eef66a70ad0cf5d280d4472fed02cee783c8c9b5f34c", func := "loop.example/g01083/laws.FnExactUniversalElement", spec := "fnExactUniversalElement", plainKeys := false, apart := false }
def FnExactUniversalElementSaid : Prop := fnExactUniversalElementRow.holds Try.pinned (OpenSpec.ofChange fnExactUniversalElementSpec)

/-- ITS FALSE NEIGHBOUR: 'it returns false'. Refute it at one input. -/
def fnExactUniversalElementWrong : ChangeSpec := { name := "fnExactUniversalElement", fn := fun _ => fun
  | [d1, d2] => { results := [.lit (.bool false)], args := [d1, d2] }
  | _ => none }
def FnExactUniversalElementWrongFalsely : Prop := fnExactUniversalElementRow.holds Try.pinned (OpenSpec.ofChange fnExactUniversalElementWrong)

/-- 'laws.FnExactAllBraidings': WHATEVER THE INPUT: true; the input reads as it did. -/
def fnExactAllBraidingsSpec : ChangeSpec := { name := "fnExactAllBraidings", fn := fun _ => fun
  | [d] => { results := [.lit (.bool true)], args := [d] }
  | _ => none }
def fnExactAllBraidingsRow : OpenClaim := { program := "ytcdekmccongjgaa", sum := "89baa675eb7792bd1856eef66a70ad0cf5d280d4472fed02cee783c8c9b5f34c", func := "loop.example/g01083/laws.FnExactAllBraidings", spec := "fnExactAllBraidings", plainKeys := false, apart := false }
def FnExactAllBraidingsSaid : Prop := fnExactAllBraidingsRow.holds Try.pinned (OpenSpec.ofChange fnExactAllBraidingsSpec)

/-- ITS FALSE NEIGHBOUR: 'it returns false'. Refute it at one input. -/
def fnExactAllBraidingsWrong : ChangeSpec := { name := "fnExactAllBraidings", fn := fun _ => fun
  | [d] => { results := [.lit (.bool false)], args := [d] }
  | _ => none }
def FnExactAllBraidingsWrongFalsely : Prop := fnExactAllBraidingsRow.holds Try.pinned (OpenSpec.ofChange fnExactAllBraidingsWrong)

/-- 'laws.FnExactDiagramSlices': WHATEVER THE INPUT: true; the input reads as it did. -/
def fnExactDiagramSlicesSpec : ChangeSpec := { name := "fnExactDiagramSlices", fn := fun _ => fun
  | [d1, d2] => { results := [.lit (.bool true)], args := [d1, d2] }
  | _ => none }
def fnExactDiagramSlicesRow : OpenClaim := { program := "ytcdekmccongjgaa", sum := "89baa675eb7792bd1856eef66a70ad0cf5d280d4472fed02cee783c8c9b5f34c", func := "loop.example/g01083/laws.FnExactDiagramSlices", spec := "fnExactDiagramSlices", recurses := true, plainKeys := false, apart := false }
def FnExactDiagramSlicesSaid : Prop := fnExactDiagramSlicesRow.holds Try.pinned (OpenSpec.ofChange fnExactDiagramSlicesSpec)

/-- ITS FALSE NEIGHBOUR: 'it returns false'. Refute it at one input. -/
def fnExactDiagramSlicesWrong : ChangeSpec := { name := "fnExactDiagramSlices", fn := fun _ => fun
  | [d1, d2] => { results := [.lit (.bool false)], args := [d1, d2] }
  | _ => none }
def FnExactDiagramSlicesWrongFalsely : Prop := fnExactDiagramSlicesRow.holds Try.pinned (OpenSpec.ofChange fnExactDiagramSlicesWrong)

/-- 'laws.FnExactFractionClasses': WHATEVER THE INPUT: true; the input reads as it did. -/
def fnExactFractionClassesSpec : ChangeSpec := { name := "fnExactFractionClasses", fn := fun _ => fun
  | [d1, d2, d3, d4] => { results := [.lit (.bool true)], args := [d1, d2, d3, d4] }
  | _ => none }
def fnExactFractionClassesRow : OpenClaim := { program := "ytcdekmccongjgaa", sum := "89baa675eb7792bd1856eef66a70ad0cf5d280d4472fed02cee783c8c9b5f34c", func := "loop.example/g01083/laws.FnExactFractionClasses", spec := "fnExactFractionClasses", plainKeys := false, apart := false }
def FnExactFractionClassesSaid : Prop := fnExactFractionClassesRow.holds Try.pinned (OpenSpec.ofChange fnExactFractionClassesSpec)

/-- ITS FALSE NEIGHBOUR: 'it returns false'. Refute it at one input. -/
def fnExactFractionClassesWrong : ChangeSpec := { name := "fnExactFractionClasses", fn := fun _ => fun
  | [d1, d2, d3, d4] => { results := [.lit (.bool false)], args := [d1, d2, d3, d4] }
  | _ => none }
def FnExactFractionClassesWrongFalsely : Prop := fnExactFractionClassesRow.holds Try.pinned (OpenSpec.ofChange fnExactFractionClassesWrong)

/- THE SECOND FORM. 'bulk': how many values and letters a reading holds, each counted each time it is reached (what is shared counts as often as it is met; a slice's spare places count too). A statement '..UptoSaid' is the law's where the arguments, and the package variables that the reading takes, are together of bulk at most 1048576: NARROWER than '..Said'. Prove '..Said' where nothing that the law and all that it calls make is longer than what came in: it says more and counts as full. Else prove '..UptoSaid'. A law counts once. -/
mutual
def uptoBulk {H : Type} : DataW H → Nat
  | .lit (.string bytes) => bytes.length + 1
  | .lit _ => 1
  | .nil => 1
  | .ptr d => uptoBulk d + 1
  | .slice elems spare => uptoBulkAll elems + uptoBulkAll spare + 1
  | .agg parts => uptoBulkAll parts + 1
  | .iface _ d => uptoBulk d + 1
  | .map entries => uptoBulkEntries entries + 1
  | .held _ => 1
def uptoBulkAll {H : Type} : List (DataW H) → Nat
  | [] => 0
  | d :: r => uptoBulk d + uptoBulkAll r
def uptoBulkEntries {H : Type} : List (Lit × DataW H) → Nat
  | [] => 0
  | x :: r => uptoBulkEntry x + uptoBulkEntries r
def uptoBulkEntry {H : Type} : Lit × DataW H → Nat
  | (.string bytes, d) => bytes.length + uptoBulk d + 1
  | (_, d) => uptoBulk d + 1
 end
def uptoSmall : (H : Type) → List (DataW H) → Bool := fun _ ds => decide (uptoBulkAll ds ≤ 1048576)
def OpenSpec.upto (s : _root_.Go.ChangeSpec) : _root_.Go.OpenSpec := { _root_.Go.OpenSpec.ofChange s with cond := some uptoSmall }

/-- 'laws.FnExactAmalgamationsOf', WHERE WHAT IT READS IS OF BULK AT MOST 1048576: true; the input reads as it did. -/
def fnExactAmalgamationsOfUptoRow : OpenClaim := { program := "ytcdekmccongjgaa", sum := "89baa675eb7792bd1856eef66a70ad0cf5d280d4472fed02cee783c8c9b5f34c", func := "loop.example/g01083/laws.FnExactAmalgamationsOf", spec := "fnExactAmalgamationsOf", plainKeys := false, apart := false, narrowed := true }
def FnExactAmalgamationsOfUptoSaid : Prop := fnExactAmalgamationsOfUptoRow.holds Try.pinned (OpenSpec.upto fnExactAmalgamationsOfSpec)

/-- 'laws.FnExactUniversalElement', WHERE WHAT IT READS IS OF BULK AT MOST 1048576: true; the input reads as it did. -/
def fnExactUniversalElementUptoRow : OpenClaim := { program := "ytcdekmccongjgaa", sum := "89baa675eb7792bd1856eef66a70ad0cf5d280d4472fed02cee783c8c9b5f34c", func := "loop.example/g01083/laws.FnExactUniversalElement", spec := "fnExactUniversalElement", plainKeys := false, apart := false, narrowed := true }
def FnExactUniversalElementUptoSaid : Prop := fnExactUniversalElementUptoRow.holds Try.pinned (OpenSpec.upto fnExactUniversalElementSpec)

/-- 'laws.FnExactAllBraidings', WHERE WHAT IT READS IS OF BULK AT MOST 1048576: true; the input reads as it did. -/
def fnExactAllBraidingsUptoRow : OpenClaim := { program := "ytcdekmccongjgaa", sum := "89baa675eb7792bd1856eef66a70ad0cf5d280d4472fed02cee783c8c9b5f34c", func := "loop.example/g01083/laws.FnExactAllBraidings", spec := "fnExactAllBraidings", plainKeys := false, apart := false, narrowed := true }
def FnExactAllBraidingsUptoSaid : Prop := fnExactAllBraidingsUptoRow.holds Try.pinned (OpenSpec.upto fnExactAllBraidingsSpec)

/-- 'laws.FnExactDiagramSlices', WHERE WHAT IT READS IS OF BULK AT MOST 1048576: true; the input reads as it did. -/
def fnExactDiagramSlicesUptoRow : OpenClaim := { program := "ytcdekmccongjgaa", sum := "89baa675eb7792bd1856eef66a70ad0cf5d280d4472fed02cee783c8c9b5f34c", func := "loop.example/g01083/laws.FnExactDiagramSlices", spec := "fnExactDiagramSlices", recurses := true, plainKeys := false, apart := false, narrowed := true }
def FnExactDiagramSlicesUptoSaid : Prop := fnExactDiagramSlicesUptoRow.holds Try.pinned (OpenSpec.upto fnExactDiagramSlicesSpec)

/-- 'laws.FnExactFractionClasses', WHERE WHAT IT READS IS OF BULK AT MOST 1048576: true; the input reads as it did. -/
def fnExactFractionClassesUptoRow : OpenClaim := { program := "ytcdekmccongjgaa", sum := "89baa675eb7792bd1856eef66a70ad0cf5d280d4472fed02cee783c8c9b5f34c", func := "loop.example/g01083/laws.FnExactFractionClasses", spec := "fnExactFractionClasses", plainKeys := false, apart := false, narrowed := true }
def FnExactFractionClassesUptoSaid : Prop := fnExactFractionClassesUptoRow.holds Try.pinned (OpenSpec.upto fnExactFractionClassesSpec)

end Rows
end Go.Proofs.Ytcdekmccongjgaa
