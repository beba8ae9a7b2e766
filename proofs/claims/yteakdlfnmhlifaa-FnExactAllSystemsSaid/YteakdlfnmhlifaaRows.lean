/-
  No cell of these rows narrows 'for every input' (looked for: loops, veiled, ifaces, maps, wideKeys, modest, calm, conditions, laid).
  DERIVED. THE GIVEN ROWS OF THIS SEAT. 3 by the template 'for every input the law returns true; each argument reads behind the call as it read before'; 0 by the template 'total and deterministic' (their statements: YteakdlfnmhlifaaTotals.lean).
  GIVEN WITH THE SEED: the statements are not yours to turn. If you find one false, say at which input.
  Laid BY PROGRAM, IN A SANDBOX (cutbox-rows.mjs): the forced cells as the released guide's own fill.sh prints them over the translation 0f5b03eb3ec28cc3… (all of the seat's roots in one cut). By AI agents, Wed Nov 11 2026. No macro, syntax, notation, axiom, sorry.
-/
import Derived.Test.YteakdlfnmhlifaaChecked
import GoSem.Claim
import GoSem.ClaimJoined
import GoSem.ClaimMapViews
import Derived.JoinedTies
import Derived.KernelRfl
namespace Go.Proofs.Yteakdlfnmhlifaa
/- THE CELL 'sum', in the pinned program and in every row, IS THE sha256 OF THE DUMP (.gsa) THAT YteakdlfnmhlifaaProg.lean LOADS. Nothing in Lean hashes anything: it is a label: what it is worth is what the hold of that sum in a sandbox is worth. -/
noncomputable def Try.pinned : Pinned := { name := "yteakdlfnmhlifaa", sum := "0f5b03eb3ec28cc345112ca1818e02da7934753b8fe440c6ba85bd260dc666ef", checked := Try.checked }
namespace Rows
def none {H : Type} : Left H := { results := [], args := [] }

/-- 'laws.FnExactAllParts': WHATEVER THE INPUT: true; the input reads as it did. -/
def fnExactAllPartsSpec : ChangeSpec := { name := "fnExactAllParts", fn := fun _ => fun
  | [d] => { results := [.lit (.bool true)], args := [d] }
  | _ => none }
def fnExactAllPartsRow : OpenClaim := { program := "yteakdlfnmhlifaa", sum := "0f5b03eb3ec28cc345112ca1818e02da7934753b8fe440c6ba85bd260dc666ef", func := "loop.example/g01083/laws.FnExactAllParts", spec := "fnExactAllParts", unfollowed := true, recurses := true, plainKeys := false, apart := false }
def FnExactAllPartsSaid : Prop := fnExactAllPartsRow.holds Try.pinned (OpenSpec.ofChange fnExactAllPartsSpec)

/-- ITS FALSE NEIGHBOUR: 'it returns false'. Refute it at one input. -/
def fnExactAllPartsWrong : ChangeSpec := { name := "fnExactAllParts", fn := fun _ => fun
  | [d] => { results := [.lit (.bool false)], args := [d] }
  | _ => none }
def FnExactAllPartsWrongFalsely : Prop := fnExactAllPartsRow.holds Try.pinned (OpenSpec.ofChange fnExactAllPartsWrong)

/-- 'laws.FnExactFractionCategory': WHATEVER THE INPUT: true; the input reads as it did. -/
def fnExactFractionCategorySpec : ChangeSpec := { name := "fnExactFractionCategory", fn := fun _ => fun
  | [d1, d2] => { results := [.lit (.bool true)], args := [d1, d2] }
  | _ => none }
def fnExactFractionCategoryRow : OpenClaim := { program := "yteakdlfnmhlifaa", sum := "0f5b03eb3ec28cc345112ca1818e02da7934753b8fe440c6ba85bd260dc666ef", func := "loop.example/g01083/laws.FnExactFractionCategory", spec := "fnExactFractionCategory", unfollowed := true, recurses := true, plainKeys := false, apart := false }
def FnExactFractionCategorySaid : Prop := fnExactFractionCategoryRow.holds Try.pinned (OpenSpec.ofChange fnExactFractionCategorySpec)

/-- ITS FALSE NEIGHBOUR: 'it returns false'. Refute it at one input. -/
def fnExactFractionCategoryWrong : ChangeSpec := { name := "fnExactFractionCategory", fn := fun _ => fun
  | [d1, d2] => { results := [.lit (.bool false)], args := [d1, d2] }
  | _ => none }
def FnExactFractionCategoryWrongFalsely : Prop := fnExactFractionCategoryRow.holds Try.pinned (OpenSpec.ofChange fnExactFractionCategoryWrong)

/-- 'laws.FnExactAllSystems': WHATEVER THE INPUT: true; the input reads as it did. -/
def fnExactAllSystemsSpec : ChangeSpec := { name := "fnExactAllSystems", fn := fun _ => fun
  | [d] => { results := [.lit (.bool true)], args := [d] }
  | _ => none }
def fnExactAllSystemsRow : OpenClaim := { program := "yteakdlfnmhlifaa", sum := "0f5b03eb3ec28cc345112ca1818e02da7934753b8fe440c6ba85bd260dc666ef", func := "loop.example/g01083/laws.FnExactAllSystems", spec := "fnExactAllSystems", unfollowed := true, recurses := true, plainKeys := false, apart := false }
def FnExactAllSystemsSaid : Prop := fnExactAllSystemsRow.holds Try.pinned (OpenSpec.ofChange fnExactAllSystemsSpec)

/-- ITS FALSE NEIGHBOUR: 'it returns false'. Refute it at one input. -/
def fnExactAllSystemsWrong : ChangeSpec := { name := "fnExactAllSystems", fn := fun _ => fun
  | [d] => { results := [.lit (.bool false)], args := [d] }
  | _ => none }
def FnExactAllSystemsWrongFalsely : Prop := fnExactAllSystemsRow.holds Try.pinned (OpenSpec.ofChange fnExactAllSystemsWrong)

/- THE SECOND FORM. 'bulk': how many values and letters a reading holds, each counted each time it is reached (what is shared counts as often as it is met; a slice's spare places count too). A statement '..UptoSaid' is the law's where the arguments, and the package variables that the reading takes, are together of bulk at most 1048576: NARROWER than '..Said'. Prove '..Said' where nothing that the law and all that it calls make is longer than what came in: it says more and counts as full. Else prove '..UptoSaid'. A law counts once. -/
mutual
def uptoBulk {H : Type} : DataW H → Nat
  | .lit (.string bytes) => bytes.length + 1
  | .lit _ => 1
  | .nil => 1
  | .ptr d => uptoBulk d + 1
  | .slice elems spare => uptoBulkAll elems + uptoBulkAll spare + 1
  | .agg parts => uptoBulkAll parts + 1
  | .iface _ d => uptoBulk d + 1
  | .map entries => uptoBulkEntries entries + 1
  | .held _ => 1
def uptoBulkAll {H : Type} : List (DataW H) → Nat
  | [] => 0
  | d :: r => uptoBulk d + uptoBulkAll r
def uptoBulkEntries {H : Type} : List (Lit × DataW H) → Nat
  | [] => 0
  | x :: r => uptoBulkEntry x + uptoBulkEntries r
def uptoBulkEntry {H : Type} : Lit × DataW H → Nat
  | (.string bytes, d) => bytes.length + uptoBulk d + 1
  | (_, d) => uptoBulk d + 1
 end
def uptoSmall : (H : Type) → List (DataW H) → Bool := fun _ ds => decide (uptoBulkAll ds ≤ 1048576)
def OpenSpec.upto (s : _root_.Go.ChangeSpec) : _root_.Go.OpenSpec := { _root_.Go.OpenSpec.ofChange s with cond := some uptoSmall }

/-- 'laws.FnExactAllParts', WHERE WHAT IT READS IS OF BULK AT MOST 1048576: true; the input reads as it did. -/
def fnExactAllPartsUptoRow : OpenClaim := { program := "yteakdlfnmhlifaa", sum := "0f5b03eb3ec28cc345112ca1818e02da7934753b8fe440c6ba85bd260dc666ef", func := "loop.example/g01083/laws.FnExactAllParts", spec := "fnExactAllParts", unfollowed := true, recurses := true, plainKeys := false, apart := false, narrowed := true }
def FnExactAllPartsUptoSaid : Prop := fnExactAllPartsUptoRow.holds Try.pinned (OpenSpec.upto fnExactAllPartsSpec)

/-- 'laws.FnExactFractionCategory', WHERE WHAT IT READS IS OF BULK AT MOST 1048576: true; the input reads as it did. -/
def fnExactFractionCategoryUptoRow : OpenClaim := { program := "yteakdlfnmhlifaa", sum := "0f5b03eb3ec28cc345112ca1818e02da7934753b8fe440c6ba85bd260dc666ef", func := "loop.example/g01083/laws.FnExactFractionCategory", spec := "fnExactFractionCategory", unfollowed := true, recurses := true, plainKeys := false, apart := false, narrowed := true }
def FnExactFractionCategoryUptoSaid : Prop := fnExactFractionCategoryUptoRow.holds Try.pinned (OpenSpec.upto fnExactFractionCategorySpec)

/-- 'laws.FnExactAllSystems', WHERE WHAT IT READS IS OF BULK AT MOST 1048576: true; the input reads as it did. -/
def fnExactAllSystemsUptoRow : OpenClaim := { program := "yteakdlfnmhlifaa", sum := "0f5b03eb3ec28cc345112ca1818e02da7934753b8fe440c6ba85bd260dc666ef", func := "loop.example/g01083/laws.FnExactAllSystems", spec := "fnExactAllSystems", unfollowed := true, recurses := true, plainKeys := false, apart := false, narrowed := true }
def FnExactAllSystemsUptoSaid : Prop := fnExactAllSystemsUptoRow.holds Try.pinned (OpenSpec.upto fnExactAllSystemsSpec)

end Rows
end Go.Proofs.Yteakdlfnmhlifaa
