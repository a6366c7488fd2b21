/-
  DERIVED. GIVEN WITH THE SEED: THE CARDS: each row of YtbpjdcpfphnccaaDoorRows.lean that lists a variable, with what it lists TIED to the program's text (the seventh form; the later family's looks); each row that meets fmt, with fmt's text TOLD by the authors' own Lean function (tested against real Go, not proved from fmt's source: count such statements apart). THE CARD IS WHAT COUNTS. Prove the row's statement (the work); the ties are given (YtbpjdcpfphnccaaDoorTie.lean); close each card by the builder's one call (the guide's Derived/Test/ToyasCard.lean, 'card_holds'). Laid BY PROGRAM, IN A SANDBOX (cutbox-door.mjs). By AI agents, Wed Nov 11 2026. No macro, syntax, notation, axiom, sorry.
-/
import Derived.Test.YtbpjdcpfphnccaaDoorRows
import GoSem.ClaimSeven
namespace Go.Proofs.YtbpjdcpfphnccaaDoor
namespace Rows

/-- THE TIED CARD OF 'strandlinelaw27.TailAgain'. -/
def tailAgainCard : Claim7 := { stood := { row := tailAgainRow, standIns := [], harness := (true, "b9c4c4e8ed2984205f555af2c68147e6cd314a127643a18862f210a03303103f"), looks := false }, kinds := [], alts := [], laidByText := true, laidKinds := [.data], laidTests := true, laidLooks := .later }
def TailAgainCardSaid : Prop := Claim7.holds Tryd.pinned (.plain (OpenSpec.ofChange tailAgainSpec)) tailAgainCard

/-- THE SECOND FORM's CARD OF 'strandlinelaw27.TailAgain'. -/
def tailAgainUptoCard : Claim7 := { stood := { row := tailAgainUptoRow, standIns := [], harness := (true, "b9c4c4e8ed2984205f555af2c68147e6cd314a127643a18862f210a03303103f"), looks := false }, kinds := [], alts := [], laidByText := true, laidKinds := [.data], laidTests := true, laidLooks := .later }
def TailAgainUptoCardSaid : Prop := Claim7.holds Tryd.pinned (.plain (OpenSpec.upto tailAgainSpec)) tailAgainUptoCard
end Rows
end Go.Proofs.YtbpjdcpfphnccaaDoor
