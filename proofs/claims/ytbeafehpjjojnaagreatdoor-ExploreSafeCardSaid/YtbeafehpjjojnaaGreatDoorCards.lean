/-
  DERIVED. GIVEN WITH THE SEED: THE CARDS: each row of YtbeafehpjjojnaaGreatDoorRows.lean that lists a variable, with what it lists TIED to the program's text (the seventh form; the later family's looks); each row that meets fmt, with fmt's text TOLD by the authors' own Lean function (tested against real Go, not proved from fmt's source: count such statements apart). THE CARD IS WHAT COUNTS. Prove the row's statement (the work); the ties are given (YtbeafehpjjojnaaGreatDoorTie.lean); close each card by the builder's one call (the guide's Derived/Test/ToyasCard.lean, 'card_holds'). Laid BY PROGRAM, IN A SANDBOX (cutbox-door.mjs). By AI agents, Wed Nov 11 2026. No macro, syntax, notation, axiom, sorry.
-/
import Derived.Test.YtbeafehpjjojnaaGreatDoorRows
import GoSem.ClaimSeven
namespace Go.Proofs.YtbeafehpjjojnaaGreatDoor
namespace Rows

/-- THE TIED CARD OF 'strandlinelaw25.LiveNobody'. -/
def liveNobodyCard : Claim7 := { stood := { row := liveNobodyRow, standIns := [], harness := (true, "32079b500fd51209bf8c4774f4656eaec7ef77643ad52c924eb12e5585a238aa"), looks := false }, kinds := [], alts := [], laidByText := true, laidKinds := [.data], laidTests := true, laidLooks := .later }
def LiveNobodyCardSaid : Prop := Claim7.holds Tryz.pinned (.plain (OpenSpec.ofChange liveNobodySpec)) liveNobodyCard

/-- THE TIED CARD OF 'strandlinelaw28.WalNobody'. -/
def walNobodyCard : Claim7 := { stood := { row := walNobodyRow, standIns := [], harness := (true, "32079b500fd51209bf8c4774f4656eaec7ef77643ad52c924eb12e5585a238aa"), looks := false }, kinds := [], alts := [], laidByText := true, laidKinds := [.data], laidTests := true, laidLooks := .later }
def WalNobodyCardSaid : Prop := Claim7.holds Tryz.pinned (.plain (OpenSpec.ofChange walNobodySpec)) walNobodyCard

/-- THE TIED CARD OF 'strandlinelaw29.IterNobody'. -/
def iterNobodyCard : Claim7 := { stood := { row := iterNobodyRow, standIns := [], harness := (true, "32079b500fd51209bf8c4774f4656eaec7ef77643ad52c924eb12e5585a238aa"), looks := false }, kinds := [], alts := [], laidByText := true, laidKinds := [.data], laidTests := true, laidLooks := .later }
def IterNobodyCardSaid : Prop := Claim7.holds Tryz.pinned (.plain (OpenSpec.ofChange iterNobodySpec)) iterNobodyCard

/-- THE TIED CARD OF 'strandlinelaw36.KvNobody'. -/
def kvNobodyCard : Claim7 := { stood := { row := kvNobodyRow, standIns := [], harness := (true, "32079b500fd51209bf8c4774f4656eaec7ef77643ad52c924eb12e5585a238aa"), looks := false }, kinds := [], alts := [], laidByText := true, laidKinds := [.data], laidTests := true, laidLooks := .later }
def KvNobodyCardSaid : Prop := Claim7.holds Tryz.pinned (.plain (OpenSpec.ofChange kvNobodySpec)) kvNobodyCard

/-- THE TIED CARD OF 'strandlinelaw46.TxnNobody'. -/
def txnNobodyCard : Claim7 := { stood := { row := txnNobodyRow, standIns := [], harness := (true, "32079b500fd51209bf8c4774f4656eaec7ef77643ad52c924eb12e5585a238aa"), looks := false }, kinds := [], alts := [], laidByText := true, laidKinds := [.data], laidTests := true, laidLooks := .later }
def TxnNobodyCardSaid : Prop := Claim7.holds Tryz.pinned (.plain (OpenSpec.ofChange txnNobodySpec)) txnNobodyCard

/-- THE TIED CARD OF 'strandlinelaw41.ExploreSafe'. -/
def exploreSafeCard : Claim7 := { stood := { row := exploreSafeRow, standIns := [], harness := (true, "32079b500fd51209bf8c4774f4656eaec7ef77643ad52c924eb12e5585a238aa"), looks := false }, kinds := [], alts := [], laidByText := true, laidKinds := [.data], laidTests := true, laidLooks := .later }
def ExploreSafeCardSaid : Prop := Claim7.holds Tryz.pinned (.plain (OpenSpec.ofChange exploreSafeSpec)) exploreSafeCard

/-- THE SECOND FORM's CARD OF 'strandlinelaw25.LiveNobody'. -/
def liveNobodyUptoCard : Claim7 := { stood := { row := liveNobodyUptoRow, standIns := [], harness := (true, "32079b500fd51209bf8c4774f4656eaec7ef77643ad52c924eb12e5585a238aa"), looks := false }, kinds := [], alts := [], laidByText := true, laidKinds := [.data], laidTests := true, laidLooks := .later }
def LiveNobodyUptoCardSaid : Prop := Claim7.holds Tryz.pinned (.plain (OpenSpec.upto liveNobodySpec)) liveNobodyUptoCard

/-- THE SECOND FORM's CARD OF 'strandlinelaw28.WalNobody'. -/
def walNobodyUptoCard : Claim7 := { stood := { row := walNobodyUptoRow, standIns := [], harness := (true, "32079b500fd51209bf8c4774f4656eaec7ef77643ad52c924eb12e5585a238aa"), looks := false }, kinds := [], alts := [], laidByText := true, laidKinds := [.data], laidTests := true, laidLooks := .later }
def WalNobodyUptoCardSaid : Prop := Claim7.holds Tryz.pinned (.plain (OpenSpec.upto walNobodySpec)) walNobodyUptoCard

/-- THE SECOND FORM's CARD OF 'strandlinelaw29.IterNobody'. -/
def iterNobodyUptoCard : Claim7 := { stood := { row := iterNobodyUptoRow, standIns := [], harness := (true, "32079b500fd51209bf8c4774f4656eaec7ef77643ad52c924eb12e5585a238aa"), looks := false }, kinds := [], alts := [], laidByText := true, laidKinds := [.data], laidTests := true, laidLooks := .later }
def IterNobodyUptoCardSaid : Prop := Claim7.holds Tryz.pinned (.plain (OpenSpec.upto iterNobodySpec)) iterNobodyUptoCard

/-- THE SECOND FORM's CARD OF 'strandlinelaw36.KvNobody'. -/
def kvNobodyUptoCard : Claim7 := { stood := { row := kvNobodyUptoRow, standIns := [], harness := (true, "32079b500fd51209bf8c4774f4656eaec7ef77643ad52c924eb12e5585a238aa"), looks := false }, kinds := [], alts := [], laidByText := true, laidKinds := [.data], laidTests := true, laidLooks := .later }
def KvNobodyUptoCardSaid : Prop := Claim7.holds Tryz.pinned (.plain (OpenSpec.upto kvNobodySpec)) kvNobodyUptoCard

/-- THE SECOND FORM's CARD OF 'strandlinelaw46.TxnNobody'. -/
def txnNobodyUptoCard : Claim7 := { stood := { row := txnNobodyUptoRow, standIns := [], harness := (true, "32079b500fd51209bf8c4774f4656eaec7ef77643ad52c924eb12e5585a238aa"), looks := false }, kinds := [], alts := [], laidByText := true, laidKinds := [.data], laidTests := true, laidLooks := .later }
def TxnNobodyUptoCardSaid : Prop := Claim7.holds Tryz.pinned (.plain (OpenSpec.upto txnNobodySpec)) txnNobodyUptoCard

/-- THE SECOND FORM's CARD OF 'strandlinelaw41.ExploreSafe'. -/
def exploreSafeUptoCard : Claim7 := { stood := { row := exploreSafeUptoRow, standIns := [], harness := (true, "32079b500fd51209bf8c4774f4656eaec7ef77643ad52c924eb12e5585a238aa"), looks := false }, kinds := [], alts := [], laidByText := true, laidKinds := [.data], laidTests := true, laidLooks := .later }
def ExploreSafeUptoCardSaid : Prop := Claim7.holds Tryz.pinned (.plain (OpenSpec.upto exploreSafeSpec)) exploreSafeUptoCard
end Rows
end Go.Proofs.YtbeafehpjjojnaaGreatDoor
