/-
  DERIVED. GIVEN WITH THE SEED: THE CARDS: each row of YtkjgjejkfjhcjaaDoorRows.lean that lists a variable, with what it lists TIED to the program's text (the seventh form; the later family's looks); each row that meets fmt, with fmt's text TOLD by the authors' own Lean function (tested against real Go, not proved from fmt's source: count such statements apart). THE CARD IS WHAT COUNTS. Prove the row's statement (the work); the ties are given (YtkjgjejkfjhcjaaDoorTie.lean); close each card by the builder's one call (the guide's Derived/Test/ToyasCard.lean, 'card_holds'). Laid BY PROGRAM, IN A SANDBOX (cutbox-door.mjs). By AI agents, Wed Nov 11 2026. No macro, syntax, notation, axiom, sorry.
-/
import Derived.Test.YtkjgjejkfjhcjaaDoorRows
import GoSem.ClaimSeven
namespace Go.Proofs.YtkjgjejkfjhcjaaDoor
namespace Rows

/-- THE TIED CARD OF 'strandlinelaw48.DumpTells'. -/
def dumpTellsCard : Claim7 := { stood := { row := dumpTellsRow, standIns := [], harness := (true, "a36ed247c5b4b290e7dff9cccada4c9dd16c977abd2648fc68a013990f152d27"), looks := false }, kinds := [], alts := [], laidByText := true, laidKinds := [.data], laidTests := true, laidLooks := .later }
def DumpTellsCardSaid : Prop := Claim7.holds Tryd.pinned (.plain (OpenSpec.ofChange dumpTellsSpec)) dumpTellsCard

/-- THE TIED CARD OF 'strandlinelaw48.DumpLines'. -/
def dumpLinesCard : Claim7 := { stood := { row := dumpLinesRow, standIns := [], harness := (true, "a36ed247c5b4b290e7dff9cccada4c9dd16c977abd2648fc68a013990f152d27"), looks := false }, kinds := [], alts := [], laidByText := true, laidKinds := [.data, .data, .pinned], laidTests := true, laidLooks := .later }
def DumpLinesCardSaid : Prop := Claim7.holds Tryd.pinned (.plain (OpenSpec.ofChange dumpLinesSpec)) dumpLinesCard

/-- THE SECOND FORM's CARD OF 'strandlinelaw48.DumpTells'. -/
def dumpTellsUptoCard : Claim7 := { stood := { row := dumpTellsUptoRow, standIns := [], harness := (true, "a36ed247c5b4b290e7dff9cccada4c9dd16c977abd2648fc68a013990f152d27"), looks := false }, kinds := [], alts := [], laidByText := true, laidKinds := [.data], laidTests := true, laidLooks := .later }
def DumpTellsUptoCardSaid : Prop := Claim7.holds Tryd.pinned (.plain (OpenSpec.upto dumpTellsSpec)) dumpTellsUptoCard

/-- THE SECOND FORM's CARD OF 'strandlinelaw48.DumpLines'. -/
def dumpLinesUptoCard : Claim7 := { stood := { row := dumpLinesUptoRow, standIns := [], harness := (true, "a36ed247c5b4b290e7dff9cccada4c9dd16c977abd2648fc68a013990f152d27"), looks := false }, kinds := [], alts := [], laidByText := true, laidKinds := [.data, .data, .pinned], laidTests := true, laidLooks := .later }
def DumpLinesUptoCardSaid : Prop := Claim7.holds Tryd.pinned (.plain (OpenSpec.upto dumpLinesSpec)) dumpLinesUptoCard
end Rows
end Go.Proofs.YtkjgjejkfjhcjaaDoor
