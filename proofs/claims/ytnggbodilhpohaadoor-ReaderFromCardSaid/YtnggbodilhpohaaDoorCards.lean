/-
  DERIVED. GIVEN WITH THE SEED: THE CARDS: each row of YtnggbodilhpohaaDoorRows.lean that lists a variable, with what it lists TIED to the program's text (the seventh form; the later family's looks); each row that meets fmt, with fmt's text TOLD by the authors' own Lean function (tested against real Go, not proved from fmt's source: count such statements apart). THE CARD IS WHAT COUNTS. Prove the row's statement (the work); the ties are given (YtnggbodilhpohaaDoorTie.lean); close each card by the builder's one call (the guide's Derived/Test/ToyasCard.lean, 'card_holds'). Laid BY PROGRAM, IN A SANDBOX (cutbox-door.mjs). By AI agents, Wed Nov 11 2026. No macro, syntax, notation, axiom, sorry.
-/
import Derived.Test.YtnggbodilhpohaaDoorRows
import GoSem.ClaimSeven
namespace Go.Proofs.YtnggbodilhpohaaDoor
namespace Rows

/-- THE TIED CARD OF 'strandlinelaw24.ReaderFrom'. -/
def readerFromCard : Claim7 := { stood := { row := readerFromRow, standIns := [], harness := (true, "c09d75e93caed79d573c303d92b63424dc27b585ceadbf905cd6c5c7141731ac"), looks := false }, kinds := [], alts := [], laidByText := true, laidKinds := [.data], laidTests := true, laidLooks := .later }
def ReaderFromCardSaid : Prop := Claim7.holds Tryd.pinned (.plain (OpenSpec.ofChange readerFromSpec)) readerFromCard

/-- THE SECOND FORM's CARD OF 'strandlinelaw24.ReaderFrom'. -/
def readerFromUptoCard : Claim7 := { stood := { row := readerFromUptoRow, standIns := [], harness := (true, "c09d75e93caed79d573c303d92b63424dc27b585ceadbf905cd6c5c7141731ac"), looks := false }, kinds := [], alts := [], laidByText := true, laidKinds := [.data], laidTests := true, laidLooks := .later }
def ReaderFromUptoCardSaid : Prop := Claim7.holds Tryd.pinned (.plain (OpenSpec.upto readerFromSpec)) readerFromUptoCard
end Rows
end Go.Proofs.YtnggbodilhpohaaDoor
