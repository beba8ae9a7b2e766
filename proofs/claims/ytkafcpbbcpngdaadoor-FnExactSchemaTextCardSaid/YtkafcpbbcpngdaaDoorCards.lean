/-
  DERIVED. GIVEN WITH THE SEED: THE CARDS: each row of YtkafcpbbcpngdaaDoorRows.lean that lists a variable, with what it lists TIED to the program's text (the seventh form; the later family's looks); each row that meets fmt, with fmt's text TOLD by the authors' own Lean function (tested against real Go, not proved from fmt's source: count such statements apart). THE CARD IS WHAT COUNTS. Prove the row's statement (the work); the ties are given (YtkafcpbbcpngdaaDoorTie.lean); close each card by the builder's one call (the guide's Derived/Test/ToyasCard.lean, 'card_holds'). Laid BY PROGRAM, IN A SANDBOX (cutbox-door.mjs). By AI agents, Wed Nov 11 2026. No macro, syntax, notation, axiom, sorry.
-/
import Derived.Test.YtkafcpbbcpngdaaDoorRows
import GoSem.ClaimSeven
namespace Go.Proofs.YtkafcpbbcpngdaaDoor
namespace Rows

/-- THE TIED CARD OF 'laws.FnExactChangeLine'. -/
def fnExactChangeLineCard : Claim7 := { stood := { row := fnExactChangeLineRow, standIns := [], harness := (true, "a3ce6bcf0b4945b65a0452308ce2731bb29c5a86805a6896e15c068f4ef484ca"), looks := false }, kinds := [], alts := [], laidByText := true, laidKinds := [.data, .data, .data], laidTests := true, laidLooks := .later }
def FnExactChangeLineCardSaid : Prop := Claim7.holds Tryd.pinned (.plain (OpenSpec.ofChange fnExactChangeLineSpec)) fnExactChangeLineCard

/-- THE TIED CARD OF 'laws.FnExactPathText'. -/
def fnExactPathTextCard : Claim7 := { stood := { row := fnExactPathTextRow, standIns := [], harness := (true, "a3ce6bcf0b4945b65a0452308ce2731bb29c5a86805a6896e15c068f4ef484ca"), looks := false }, kinds := [], alts := [], laidByText := true, laidKinds := [.data, .data, .data], laidTests := true, laidLooks := .later }
def FnExactPathTextCardSaid : Prop := Claim7.holds Tryd.pinned (.plain (OpenSpec.ofChange fnExactPathTextSpec)) fnExactPathTextCard

/-- THE TIED CARD OF 'laws.FnExactSchemaText'. -/
def fnExactSchemaTextCard : Claim7 := { stood := { row := fnExactSchemaTextRow, standIns := [], harness := (true, "a3ce6bcf0b4945b65a0452308ce2731bb29c5a86805a6896e15c068f4ef484ca"), looks := false }, kinds := [], alts := [], laidByText := true, laidKinds := [.data, .data, .data], laidTests := true, laidLooks := .later }
def FnExactSchemaTextCardSaid : Prop := Claim7.holds Tryd.pinned (.plain (OpenSpec.ofChange fnExactSchemaTextSpec)) fnExactSchemaTextCard

/-- THE TIED CARD OF 'laws.FnExactCategoryText'. -/
def fnExactCategoryTextCard : Claim7 := { stood := { row := fnExactCategoryTextRow, standIns := [], harness := (true, "a3ce6bcf0b4945b65a0452308ce2731bb29c5a86805a6896e15c068f4ef484ca"), looks := false }, kinds := [], alts := [], laidByText := true, laidKinds := [.data, .data, .data], laidTests := true, laidLooks := .later }
def FnExactCategoryTextCardSaid : Prop := Claim7.holds Tryd.pinned (.plain (OpenSpec.ofChange fnExactCategoryTextSpec)) fnExactCategoryTextCard

/-- THE SECOND FORM's CARD OF 'laws.FnExactChangeLine'. -/
def fnExactChangeLineUptoCard : Claim7 := { stood := { row := fnExactChangeLineUptoRow, standIns := [], harness := (true, "a3ce6bcf0b4945b65a0452308ce2731bb29c5a86805a6896e15c068f4ef484ca"), looks := false }, kinds := [], alts := [], laidByText := true, laidKinds := [.data, .data, .data], laidTests := true, laidLooks := .later }
def FnExactChangeLineUptoCardSaid : Prop := Claim7.holds Tryd.pinned (.plain (OpenSpec.upto fnExactChangeLineSpec)) fnExactChangeLineUptoCard

/-- THE SECOND FORM's CARD OF 'laws.FnExactPathText'. -/
def fnExactPathTextUptoCard : Claim7 := { stood := { row := fnExactPathTextUptoRow, standIns := [], harness := (true, "a3ce6bcf0b4945b65a0452308ce2731bb29c5a86805a6896e15c068f4ef484ca"), looks := false }, kinds := [], alts := [], laidByText := true, laidKinds := [.data, .data, .data], laidTests := true, laidLooks := .later }
def FnExactPathTextUptoCardSaid : Prop := Claim7.holds Tryd.pinned (.plain (OpenSpec.upto fnExactPathTextSpec)) fnExactPathTextUptoCard

/-- THE SECOND FORM's CARD OF 'laws.FnExactSchemaText'. -/
def fnExactSchemaTextUptoCard : Claim7 := { stood := { row := fnExactSchemaTextUptoRow, standIns := [], harness := (true, "a3ce6bcf0b4945b65a0452308ce2731bb29c5a86805a6896e15c068f4ef484ca"), looks := false }, kinds := [], alts := [], laidByText := true, laidKinds := [.data, .data, .data], laidTests := true, laidLooks := .later }
def FnExactSchemaTextUptoCardSaid : Prop := Claim7.holds Tryd.pinned (.plain (OpenSpec.upto fnExactSchemaTextSpec)) fnExactSchemaTextUptoCard

/-- THE SECOND FORM's CARD OF 'laws.FnExactCategoryText'. -/
def fnExactCategoryTextUptoCard : Claim7 := { stood := { row := fnExactCategoryTextUptoRow, standIns := [], harness := (true, "a3ce6bcf0b4945b65a0452308ce2731bb29c5a86805a6896e15c068f4ef484ca"), looks := false }, kinds := [], alts := [], laidByText := true, laidKinds := [.data, .data, .data], laidTests := true, laidLooks := .later }
def FnExactCategoryTextUptoCardSaid : Prop := Claim7.holds Tryd.pinned (.plain (OpenSpec.upto fnExactCategoryTextSpec)) fnExactCategoryTextUptoCard
end Rows
end Go.Proofs.YtkafcpbbcpngdaaDoor
