/-
  No cell of these rows narrows 'for every input' (looked for: loops, veiled, ifaces, maps, wideKeys, modest, calm, conditions, laid).
  DERIVED. THE GIVEN ROWS OF THIS SEAT. 3 by the template 'for every input the law returns true; each argument reads behind the call as it read before'; 0 by the template 'total and deterministic' (their statements: YtojjlnbnneemaaaTotals.lean).
  GIVEN WITH THE SEED: the statements are not yours to turn. If you find one false, say at which input.
  Laid BY PROGRAM, IN A SANDBOX (cutbox-rows.mjs): the forced cells as the released guide's own fill.sh prints them over the translation f05c322303b27509… (all of the seat's roots in one cut). By AI agents, Wed Nov 11 2026. No macro, syntax, notation, axiom, sorry.
-/
import Derived.Test.YtojjlnbnneemaaaChecked
import GoSem.Claim
import GoSem.ClaimJoined
import GoSem.ClaimMapViews
import Derived.JoinedTies
import Derived.KernelRfl
namespace Go.Proofs.Ytojjlnbnneemaaa
/- THE CELL 'sum', in the pinned program and in every row, IS THE sha256 OF THE DUMP (.gsa) THAT YtojjlnbnneemaaaProg.lean LOADS. Nothing in Lean hashes anything: it is a label: what it is worth is what the hold of that sum in a sandbox is worth. -/
noncomputable def Try.pinned : Pinned := { name := "ytojjlnbnneemaaa", sum := "f05c322303b27509408a4c4e842746e57035a1538ac8cd305bb640d91ddd88ed", checked := Try.checked }
namespace Rows
def none {H : Type} : Left H := { results := [], args := [] }

/-- 'laws.FnOrderedMonoids': WHATEVER THE INPUT: true; the input reads as it did. -/
def fnOrderedMonoidsSpec : ChangeSpec := { name := "fnOrderedMonoids", fn := fun _ => fun
  | [d] => { results := [.lit (.bool true)], args := [d] }
  | _ => none }
def fnOrderedMonoidsRow : OpenClaim := { program := "ytojjlnbnneemaaa", sum := "f05c322303b27509408a4c4e842746e57035a1538ac8cd305bb640d91ddd88ed", func := "loop.example/g01083/laws.FnOrderedMonoids", spec := "fnOrderedMonoids", unfollowed := true, recurses := true, plainKeys := false, apart := false }
def FnOrderedMonoidsSaid : Prop := fnOrderedMonoidsRow.holds Try.pinned (OpenSpec.ofChange fnOrderedMonoidsSpec)

/-- ITS FALSE NEIGHBOUR: 'it returns false'. Refute it at one input. -/
def fnOrderedMonoidsWrong : ChangeSpec := { name := "fnOrderedMonoids", fn := fun _ => fun
  | [d] => { results := [.lit (.bool false)], args := [d] }
  | _ => none }
def FnOrderedMonoidsWrongFalsely : Prop := fnOrderedMonoidsRow.holds Try.pinned (OpenSpec.ofChange fnOrderedMonoidsWrong)

/-- 'laws.FnEqualizerArrows': WHATEVER THE INPUT: true; the input reads as it did. -/
def fnEqualizerArrowsSpec : ChangeSpec := { name := "fnEqualizerArrows", fn := fun _ => fun
  | [d] => { results := [.lit (.bool true)], args := [d] }
  | _ => none }
def fnEqualizerArrowsRow : OpenClaim := { program := "ytojjlnbnneemaaa", sum := "f05c322303b27509408a4c4e842746e57035a1538ac8cd305bb640d91ddd88ed", func := "loop.example/g01083/laws.FnEqualizerArrows", spec := "fnEqualizerArrows", unfollowed := true, recurses := true, plainKeys := false, apart := false }
def FnEqualizerArrowsSaid : Prop := fnEqualizerArrowsRow.holds Try.pinned (OpenSpec.ofChange fnEqualizerArrowsSpec)

/-- ITS FALSE NEIGHBOUR: 'it returns false'. Refute it at one input. -/
def fnEqualizerArrowsWrong : ChangeSpec := { name := "fnEqualizerArrows", fn := fun _ => fun
  | [d] => { results := [.lit (.bool false)], args := [d] }
  | _ => none }
def FnEqualizerArrowsWrongFalsely : Prop := fnEqualizerArrowsRow.holds Try.pinned (OpenSpec.ofChange fnEqualizerArrowsWrong)

/-- 'laws.FnDensity': WHATEVER THE INPUT: true; the input reads as it did. -/
def fnDensitySpec : ChangeSpec := { name := "fnDensity", fn := fun _ => fun
  | [d] => { results := [.lit (.bool true)], args := [d] }
  | _ => none }
def fnDensityRow : OpenClaim := { program := "ytojjlnbnneemaaa", sum := "f05c322303b27509408a4c4e842746e57035a1538ac8cd305bb640d91ddd88ed", func := "loop.example/g01083/laws.FnDensity", spec := "fnDensity", plainKeys := false, apart := false }
def FnDensitySaid : Prop := fnDensityRow.holds Try.pinned (OpenSpec.ofChange fnDensitySpec)

/-- ITS FALSE NEIGHBOUR: 'it returns false'. Refute it at one input. -/
def fnDensityWrong : ChangeSpec := { name := "fnDensity", fn := fun _ => fun
  | [d] => { results := [.lit (.bool false)], args := [d] }
  | _ => none }
def FnDensityWrongFalsely : Prop := fnDensityRow.holds Try.pinned (OpenSpec.ofChange fnDensityWrong)

/- THE SECOND FORM. 'bulk': how many values and letters a reading holds, each counted each time it is reached (what is shared counts as often as it is met; a slice's spare places count too). A statement '..UptoSaid' is the law's where the arguments, and the package variables that the reading takes, are together of bulk at most 1048576: NARROWER than '..Said'. Prove '..Said' where nothing that the law and all that it calls make is longer than what came in: it says more and counts as full. Else prove '..UptoSaid'. A law counts once. -/
mutual
def uptoBulk {H : Type} : DataW H → Nat
  | .lit (.string bytes) => bytes.length + 1
  | .lit _ => 1
  | .nil => 1
  | .ptr d => uptoBulk d + 1
  | .slice elems spare => uptoBulkAll elems + uptoBulkAll spare + 1
  | .agg parts => uptoBulkAll parts + 1
  | .iface _ d => uptoBulk d + 1
  | .map entries => uptoBulkEntries entries + 1
  | .held _ => 1
def uptoBulkAll {H : Type} : List (DataW H) → Nat
  | [] => 0
  | d :: r => uptoBulk d + uptoBulkAll r
def uptoBulkEntries {H : Type} : List (Lit × DataW H) → Nat
  | [] => 0
  | x :: r => uptoBulkEntry x + uptoBulkEntries r
def uptoBulkEntry {H : Type} : Lit × DataW H → Nat
  | (.string bytes, d) => bytes.length + uptoBulk d + 1
  | (_, d) => uptoBulk d + 1
 end
def uptoSmall : (H : Type) → List (DataW H) → Bool := fun _ ds => decide (uptoBulkAll ds ≤ 1048576)
def OpenSpec.upto (s : _root_.Go.ChangeSpec) : _root_.Go.OpenSpec := { _root_.Go.OpenSpec.ofChange s with cond := some uptoSmall }

/-- 'laws.FnOrderedMonoids', WHERE WHAT IT READS IS OF BULK AT MOST 1048576: true; the input reads as it did. -/
def fnOrderedMonoidsUptoRow : OpenClaim := { program := "ytojjlnbnneemaaa", sum := "f05c322303b27509408a4c4e842746e57035a1538ac8cd305bb640d91ddd88ed", func := "loop.example/g01083/laws.FnOrderedMonoids", spec := "fnOrderedMonoids", unfollowed := true, recurses := true, plainKeys := false, apart := false, narrowed := true }
def FnOrderedMonoidsUptoSaid : Prop := fnOrderedMonoidsUptoRow.holds Try.pinned (OpenSpec.upto fnOrderedMonoidsSpec)

/-- 'laws.FnEqualizerArrows', WHERE WHAT IT READS IS OF BULK AT MOST 1048576: true; the input reads as it did. -/
def fnEqualizerArrowsUptoRow : OpenClaim := { program := "ytojjlnbnneemaaa", sum := "f05c322303b27509408a4c4e842746e57035a1538ac8cd305bb640d91ddd88ed", func := "loop.example/g01083/laws.FnEqualizerArrows", spec := "fnEqualizerArrows", unfollowed := true, recurses := true, plainKeys := false, apart := false, narrowed := true }
def FnEqualizerArrowsUptoSaid : Prop := fnEqualizerArrowsUptoRow.holds Try.pinned (OpenSpec.upto fnEqualizerArrowsSpec)

/-- 'laws.FnDensity', WHERE WHAT IT READS IS OF BULK AT MOST 1048576: true; the input reads as it did. -/
def fnDensityUptoRow : OpenClaim := { program := "ytojjlnbnneemaaa", sum := "f05c322303b27509408a4c4e842746e57035a1538ac8cd305bb640d91ddd88ed", func := "loop.example/g01083/laws.FnDensity", spec := "fnDensity", plainKeys := false, apart := false, narrowed := true }
def FnDensityUptoSaid : Prop := fnDensityUptoRow.holds Try.pinned (OpenSpec.upto fnDensitySpec)

end Rows
end Go.Proofs.Ytojjlnbnneemaaa
