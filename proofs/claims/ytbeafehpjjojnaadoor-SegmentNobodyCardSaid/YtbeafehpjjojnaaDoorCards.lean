/-
  DERIVED. GIVEN WITH THE SEED: THE CARDS: each row of YtbeafehpjjojnaaDoorRows.lean that lists a variable, with what it lists TIED to the program's text (the seventh form; the later family's looks); each row that meets fmt, with fmt's text TOLD by the authors' own Lean function (tested against real Go, not proved from fmt's source: count such statements apart). THE CARD IS WHAT COUNTS. Prove the row's statement (the work); the ties are given (YtbeafehpjjojnaaDoorTie.lean); close each card by the builder's one call (the guide's Derived/Test/ToyasCard.lean, 'card_holds'). Laid BY PROGRAM, IN A SANDBOX (cutbox-door.mjs). By AI agents, Wed Nov 11 2026. No macro, syntax, notation, axiom, sorry.
-/
import Derived.Test.YtbeafehpjjojnaaDoorRows
import GoSem.ClaimSeven
namespace Go.Proofs.YtbeafehpjjojnaaDoor
namespace Rows

/-- THE TIED CARD OF 'strandlinelaw49.FsckNames'. -/
def fsckNamesCard : Claim7 := { stood := { row := fsckNamesRow, standIns := [], harness := (true, "568546b6311336c297fe1dd1354b88986b0e9aff68158e9ee4a33eff6200239d"), looks := false }, kinds := [], alts := [], laidByText := true, laidKinds := [.data], laidTests := true, laidLooks := .later }
def FsckNamesCardSaid : Prop := Claim7.holds Tryd.pinned (.plain (OpenSpec.ofChange fsckNamesSpec)) fsckNamesCard

/-- THE TIED CARD OF 'strandlinelaw22.SegmentNobody'. -/
def segmentNobodyCard : Claim7 := { stood := { row := segmentNobodyRow, standIns := [], harness := (true, "568546b6311336c297fe1dd1354b88986b0e9aff68158e9ee4a33eff6200239d"), looks := false }, kinds := [], alts := [], laidByText := true, laidKinds := [.data], laidTests := true, laidLooks := .later }
def SegmentNobodyCardSaid : Prop := Claim7.holds Tryd.pinned (.plain (OpenSpec.ofChange segmentNobodySpec)) segmentNobodyCard

/-- THE SECOND FORM's CARD OF 'strandlinelaw49.FsckNames'. -/
def fsckNamesUptoCard : Claim7 := { stood := { row := fsckNamesUptoRow, standIns := [], harness := (true, "568546b6311336c297fe1dd1354b88986b0e9aff68158e9ee4a33eff6200239d"), looks := false }, kinds := [], alts := [], laidByText := true, laidKinds := [.data], laidTests := true, laidLooks := .later }
def FsckNamesUptoCardSaid : Prop := Claim7.holds Tryd.pinned (.plain (OpenSpec.upto fsckNamesSpec)) fsckNamesUptoCard

/-- THE SECOND FORM's CARD OF 'strandlinelaw22.SegmentNobody'. -/
def segmentNobodyUptoCard : Claim7 := { stood := { row := segmentNobodyUptoRow, standIns := [], harness := (true, "568546b6311336c297fe1dd1354b88986b0e9aff68158e9ee4a33eff6200239d"), looks := false }, kinds := [], alts := [], laidByText := true, laidKinds := [.data], laidTests := true, laidLooks := .later }
def SegmentNobodyUptoCardSaid : Prop := Claim7.holds Tryd.pinned (.plain (OpenSpec.upto segmentNobodySpec)) segmentNobodyUptoCard
end Rows
end Go.Proofs.YtbeafehpjjojnaaDoor
