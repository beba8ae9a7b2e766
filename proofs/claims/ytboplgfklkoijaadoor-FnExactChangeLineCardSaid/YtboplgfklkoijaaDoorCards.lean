/-
  DERIVED. GIVEN WITH THE SEED: THE CARDS: each row of YtboplgfklkoijaaDoorRows.lean that lists a variable, with what it lists TIED to the program's text (the seventh form; the later family's looks); each row that meets fmt, with fmt's text TOLD by the authors' own Lean function (tested against real Go, not proved from fmt's source: count such statements apart). THE CARD IS WHAT COUNTS. Prove the row's statement (the work); the ties are given (YtboplgfklkoijaaDoorTie.lean); close each card by the builder's one call (the guide's Derived/Test/ToyasCard.lean, 'card_holds'). Laid BY PROGRAM, IN A SANDBOX (cutbox-door.mjs). By AI agents, Wed Nov 11 2026. No macro, syntax, notation, axiom, sorry.
-/
import Derived.Test.YtboplgfklkoijaaDoorRows
import GoSem.ClaimSeven
namespace Go.Proofs.YtboplgfklkoijaaDoor
namespace Rows

/-- THE TIED CARD OF 'laws.FnExactChangeLine'. -/
def fnExactChangeLineCard : Claim7 := { stood := { row := fnExactChangeLineRow, standIns := [], harness := (true, "ca865f8136ce237f5a5d743ff33caa9f208d8969c452146e1c986ec52918a6ad"), looks := false }, kinds := [], alts := [], laidByText := true, laidKinds := [.data, .data, .data], laidTests := true, laidLooks := .later }
def FnExactChangeLineCardSaid : Prop := Claim7.holds Tryd.pinned (.plain (OpenSpec.ofChange fnExactChangeLineSpec)) fnExactChangeLineCard

/-- THE SECOND FORM's CARD OF 'laws.FnExactChangeLine'. -/
def fnExactChangeLineUptoCard : Claim7 := { stood := { row := fnExactChangeLineUptoRow, standIns := [], harness := (true, "ca865f8136ce237f5a5d743ff33caa9f208d8969c452146e1c986ec52918a6ad"), looks := false }, kinds := [], alts := [], laidByText := true, laidKinds := [.data, .data, .data], laidTests := true, laidLooks := .later }
def FnExactChangeLineUptoCardSaid : Prop := Claim7.holds Tryd.pinned (.plain (OpenSpec.upto fnExactChangeLineSpec)) fnExactChangeLineUptoCard
end Rows
end Go.Proofs.YtboplgfklkoijaaDoor
