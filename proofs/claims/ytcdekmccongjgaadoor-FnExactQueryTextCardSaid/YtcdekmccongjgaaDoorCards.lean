/-
  DERIVED. GIVEN WITH THE SEED: THE CARDS: each row of YtcdekmccongjgaaDoorRows.lean that lists a variable, with what it lists TIED to the program's text (the seventh form; the later family's looks); each row that meets fmt, with fmt's text TOLD by the authors' own Lean function (tested against real Go, not proved from fmt's source: count such statements apart). THE CARD IS WHAT COUNTS. Prove the row's statement (the work); the ties are given (YtcdekmccongjgaaDoorTie.lean); close each card by the builder's one call (the guide's Derived/Test/ToyasCard.lean, 'card_holds'). Laid BY PROGRAM, IN A SANDBOX (cutbox-door.mjs). By AI agents, Wed Nov 11 2026. No macro, syntax, notation, axiom, sorry.
-/
import Derived.Test.YtcdekmccongjgaaDoorRows
import GoSem.ClaimSeven
namespace Go.Proofs.YtcdekmccongjgaaDoor
namespace Rows

/-- THE TIED CARD OF 'laws.FnExactProofText'. -/
def fnExactProofTextCard : Claim7 := { stood := { row := fnExactProofTextRow, standIns := [], harness := (true, "a1d9fa54767619ecf3a8ba5d77b49151e360d201509aeff880348b75dc356b9c"), looks := false }, kinds := [], alts := [], laidByText := true, laidKinds := [.data, .data, .data], laidTests := true, laidLooks := .later }
def FnExactProofTextCardSaid : Prop := Claim7.holds Tryd.pinned (.plain (OpenSpec.ofChange fnExactProofTextSpec)) fnExactProofTextCard

/-- THE TIED CARD OF 'laws.FnExactQueryText'. -/
def fnExactQueryTextCard : Claim7 := { stood := { row := fnExactQueryTextRow, standIns := [], harness := (true, "a1d9fa54767619ecf3a8ba5d77b49151e360d201509aeff880348b75dc356b9c"), looks := false }, kinds := [], alts := [], laidByText := true, laidKinds := [.data, .data, .data], laidTests := true, laidLooks := .later }
def FnExactQueryTextCardSaid : Prop := Claim7.holds Tryd.pinned (.plain (OpenSpec.ofChange fnExactQueryTextSpec)) fnExactQueryTextCard

/-- THE SECOND FORM's CARD OF 'laws.FnExactProofText'. -/
def fnExactProofTextUptoCard : Claim7 := { stood := { row := fnExactProofTextUptoRow, standIns := [], harness := (true, "a1d9fa54767619ecf3a8ba5d77b49151e360d201509aeff880348b75dc356b9c"), looks := false }, kinds := [], alts := [], laidByText := true, laidKinds := [.data, .data, .data], laidTests := true, laidLooks := .later }
def FnExactProofTextUptoCardSaid : Prop := Claim7.holds Tryd.pinned (.plain (OpenSpec.upto fnExactProofTextSpec)) fnExactProofTextUptoCard

/-- THE SECOND FORM's CARD OF 'laws.FnExactQueryText'. -/
def fnExactQueryTextUptoCard : Claim7 := { stood := { row := fnExactQueryTextUptoRow, standIns := [], harness := (true, "a1d9fa54767619ecf3a8ba5d77b49151e360d201509aeff880348b75dc356b9c"), looks := false }, kinds := [], alts := [], laidByText := true, laidKinds := [.data, .data, .data], laidTests := true, laidLooks := .later }
def FnExactQueryTextUptoCardSaid : Prop := Claim7.holds Tryd.pinned (.plain (OpenSpec.upto fnExactQueryTextSpec)) fnExactQueryTextUptoCard
end Rows
end Go.Proofs.YtcdekmccongjgaaDoor
