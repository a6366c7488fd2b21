/-
  No cell of these rows narrows 'for every input' (looked for: loops, veiled, ifaces, maps, wideKeys, modest, calm, conditions, laid).
  DERIVED. THE GIVEN ROWS OF THIS SEAT. 9 by the template 'for every input the law returns true; each argument reads behind the call as it read before'; 0 by the template 'total and deterministic' (their statements: YtoobcebmkfbdfaaTotals.lean).
  GIVEN WITH THE SEED: the statements are not yours to turn. If you find one false, say at which input.
  Laid BY PROGRAM, IN A SANDBOX (cutbox-rows.mjs): the forced cells as the released guide's own fill.sh prints them over the translation 88c58959988196fc… (all of the seat's roots in one cut). By AI agents, Wed Nov 11 2026. No macro, syntax, notation, axiom, sorry.
-/
import Derived.Test.YtoobcebmkfbdfaaChecked
import GoSem.Claim
import GoSem.ClaimJoined
import GoSem.ClaimMapViews
import Derived.JoinedTies
import Derived.KernelRfl
namespace Go.Proofs.Ytoobcebmkfbdfaa
/- THE CELL 'sum', in the pinned program and in every row, IS THE sha256 OF THE DUMP (.gsa) THAT YtoobcebmkfbdfaaProg.lean LOADS. Nothing in Lean hashes anything: it is a label: what it is worth is what the hold of that sum in a sandbox is worth. -/
noncomputable def Try.pinned : Pinned := { name := "ytoobcebmkfbdfaa", sum := "88c58959988196fc2942b792d4ea5f27a268a8b67ee5a98515755b0706cd66a8", checked := Try.checked }
namespace Rows
def none {H : Type} : Left H := { results := [], args := [] }

/-- 'strandlinelaw12.BatchLasts': WHATEVER THE INPUT: true; the input reads as it did. -/
def batchLastsSpec : ChangeSpec := { name := "batchLasts", fn := fun _ => fun
  | [d] => { results := [.lit (.bool true)], args := [d] }
  | _ => none }
def batchLastsRow : OpenClaim := { program := "ytoobcebmkfbdfaa", sum := "88c58959988196fc2942b792d4ea5f27a268a8b67ee5a98515755b0706cd66a8", func := "strandline/strandlinelaw12.BatchLasts", spec := "batchLasts", unfollowed := true, recurses := true, plainKeys := false, apart := false }
def BatchLastsSaid : Prop := batchLastsRow.holds Try.pinned (OpenSpec.ofChange batchLastsSpec)

/-- ITS FALSE NEIGHBOUR: 'it returns false'. Refute it at one input. -/
def batchLastsWrong : ChangeSpec := { name := "batchLasts", fn := fun _ => fun
  | [d] => { results := [.lit (.bool false)], args := [d] }
  | _ => none }
def BatchLastsWrongFalsely : Prop := batchLastsRow.holds Try.pinned (OpenSpec.ofChange batchLastsWrong)

/-- 'strandlinelaw08.DiskLays': WHATEVER THE INPUT: true; the input reads as it did. -/
def diskLaysSpec : ChangeSpec := { name := "diskLays", fn := fun _ => fun
  | [d1, d2, d3] => { results := [.lit (.bool true)], args := [d1, d2, d3] }
  | _ => none }
def diskLaysRow : OpenClaim := { program := "ytoobcebmkfbdfaa", sum := "88c58959988196fc2942b792d4ea5f27a268a8b67ee5a98515755b0706cd66a8", func := "strandline/strandlinelaw08.DiskLays", spec := "diskLays", unfollowed := true, recurses := true, plainKeys := false, apart := false }
def DiskLaysSaid : Prop := diskLaysRow.holds Try.pinned (OpenSpec.ofChange diskLaysSpec)

/-- ITS FALSE NEIGHBOUR: 'it returns false'. Refute it at one input. -/
def diskLaysWrong : ChangeSpec := { name := "diskLays", fn := fun _ => fun
  | [d1, d2, d3] => { results := [.lit (.bool false)], args := [d1, d2, d3] }
  | _ => none }
def DiskLaysWrongFalsely : Prop := diskLaysRow.holds Try.pinned (OpenSpec.ofChange diskLaysWrong)

/-- 'strandlinelaw08.DiskPlays': WHATEVER THE INPUT: true; the input reads as it did. -/
def diskPlaysSpec : ChangeSpec := { name := "diskPlays", fn := fun _ => fun
  | [d1, d2] => { results := [.lit (.bool true)], args := [d1, d2] }
  | _ => none }
def diskPlaysRow : OpenClaim := { program := "ytoobcebmkfbdfaa", sum := "88c58959988196fc2942b792d4ea5f27a268a8b67ee5a98515755b0706cd66a8", func := "strandline/strandlinelaw08.DiskPlays", spec := "diskPlays", unfollowed := true, recurses := true, plainKeys := false, apart := false }
def DiskPlaysSaid : Prop := diskPlaysRow.holds Try.pinned (OpenSpec.ofChange diskPlaysSpec)

/-- ITS FALSE NEIGHBOUR: 'it returns false'. Refute it at one input. -/
def diskPlaysWrong : ChangeSpec := { name := "diskPlays", fn := fun _ => fun
  | [d1, d2] => { results := [.lit (.bool false)], args := [d1, d2] }
  | _ => none }
def DiskPlaysWrongFalsely : Prop := diskPlaysRow.holds Try.pinned (OpenSpec.ofChange diskPlaysWrong)

/-- 'strandlinelaw08.DiskClones': WHATEVER THE INPUT: true; the input reads as it did. -/
def diskClonesSpec : ChangeSpec := { name := "diskClones", fn := fun _ => fun
  | [d1, d2] => { results := [.lit (.bool true)], args := [d1, d2] }
  | _ => none }
def diskClonesRow : OpenClaim := { program := "ytoobcebmkfbdfaa", sum := "88c58959988196fc2942b792d4ea5f27a268a8b67ee5a98515755b0706cd66a8", func := "strandline/strandlinelaw08.DiskClones", spec := "diskClones", unfollowed := true, recurses := true, plainKeys := false, apart := false }
def DiskClonesSaid : Prop := diskClonesRow.holds Try.pinned (OpenSpec.ofChange diskClonesSpec)

/-- ITS FALSE NEIGHBOUR: 'it returns false'. Refute it at one input. -/
def diskClonesWrong : ChangeSpec := { name := "diskClones", fn := fun _ => fun
  | [d1, d2] => { results := [.lit (.bool false)], args := [d1, d2] }
  | _ => none }
def DiskClonesWrongFalsely : Prop := diskClonesRow.holds Try.pinned (OpenSpec.ofChange diskClonesWrong)

/-- 'strandlinelaw21.PoolNobody': WHATEVER THE INPUT: true; the input reads as it did. -/
def poolNobodySpec : ChangeSpec := { name := "poolNobody", fn := fun _ => fun
  | [d] => { results := [.lit (.bool true)], args := [d] }
  | _ => none }
def poolNobodyRow : OpenClaim := { program := "ytoobcebmkfbdfaa", sum := "88c58959988196fc2942b792d4ea5f27a268a8b67ee5a98515755b0706cd66a8", func := "strandline/strandlinelaw21.PoolNobody", spec := "poolNobody", unfollowed := true, recurses := true, plainKeys := false, apart := false }
def PoolNobodySaid : Prop := poolNobodyRow.holds Try.pinned (OpenSpec.ofChange poolNobodySpec)

/-- ITS FALSE NEIGHBOUR: 'it returns false'. Refute it at one input. -/
def poolNobodyWrong : ChangeSpec := { name := "poolNobody", fn := fun _ => fun
  | [d] => { results := [.lit (.bool false)], args := [d] }
  | _ => none }
def PoolNobodyWrongFalsely : Prop := poolNobodyRow.holds Try.pinned (OpenSpec.ofChange poolNobodyWrong)

/-- 'strandlinelaw21.PoolPlays': WHATEVER THE INPUT: true; the input reads as it did. -/
def poolPlaysSpec : ChangeSpec := { name := "poolPlays", fn := fun _ => fun
  | [d1, d2] => { results := [.lit (.bool true)], args := [d1, d2] }
  | _ => none }
def poolPlaysRow : OpenClaim := { program := "ytoobcebmkfbdfaa", sum := "88c58959988196fc2942b792d4ea5f27a268a8b67ee5a98515755b0706cd66a8", func := "strandline/strandlinelaw21.PoolPlays", spec := "poolPlays", unfollowed := true, recurses := true, plainKeys := false, apart := false }
def PoolPlaysSaid : Prop := poolPlaysRow.holds Try.pinned (OpenSpec.ofChange poolPlaysSpec)

/-- ITS FALSE NEIGHBOUR: 'it returns false'. Refute it at one input. -/
def poolPlaysWrong : ChangeSpec := { name := "poolPlays", fn := fun _ => fun
  | [d1, d2] => { results := [.lit (.bool false)], args := [d1, d2] }
  | _ => none }
def PoolPlaysWrongFalsely : Prop := poolPlaysRow.holds Try.pinned (OpenSpec.ofChange poolPlaysWrong)

/-- 'strandlinelaw47.LedgerFolds': WHATEVER THE INPUT: true; the input reads as it did. -/
def ledgerFoldsSpec : ChangeSpec := { name := "ledgerFolds", fn := fun _ => fun
  | [d] => { results := [.lit (.bool true)], args := [d] }
  | _ => none }
def ledgerFoldsRow : OpenClaim := { program := "ytoobcebmkfbdfaa", sum := "88c58959988196fc2942b792d4ea5f27a268a8b67ee5a98515755b0706cd66a8", func := "strandline/strandlinelaw47.LedgerFolds", spec := "ledgerFolds", recurses := true, plainKeys := false, apart := false }
def LedgerFoldsSaid : Prop := ledgerFoldsRow.holds Try.pinned (OpenSpec.ofChange ledgerFoldsSpec)

/-- ITS FALSE NEIGHBOUR: 'it returns false'. Refute it at one input. -/
def ledgerFoldsWrong : ChangeSpec := { name := "ledgerFolds", fn := fun _ => fun
  | [d] => { results := [.lit (.bool false)], args := [d] }
  | _ => none }
def LedgerFoldsWrongFalsely : Prop := ledgerFoldsRow.holds Try.pinned (OpenSpec.ofChange ledgerFoldsWrong)

/-- 'strandlinelaw47.LedgerTells': WHATEVER THE INPUT: true; the input reads as it did. -/
def ledgerTellsSpec : ChangeSpec := { name := "ledgerTells", fn := fun _ => fun
  | [d] => { results := [.lit (.bool true)], args := [d] }
  | _ => none }
def ledgerTellsRow : OpenClaim := { program := "ytoobcebmkfbdfaa", sum := "88c58959988196fc2942b792d4ea5f27a268a8b67ee5a98515755b0706cd66a8", func := "strandline/strandlinelaw47.LedgerTells", spec := "ledgerTells", recurses := true, plainKeys := false, apart := false }
def LedgerTellsSaid : Prop := ledgerTellsRow.holds Try.pinned (OpenSpec.ofChange ledgerTellsSpec)

/-- ITS FALSE NEIGHBOUR: 'it returns false'. Refute it at one input. -/
def ledgerTellsWrong : ChangeSpec := { name := "ledgerTells", fn := fun _ => fun
  | [d] => { results := [.lit (.bool false)], args := [d] }
  | _ => none }
def LedgerTellsWrongFalsely : Prop := ledgerTellsRow.holds Try.pinned (OpenSpec.ofChange ledgerTellsWrong)

/-- 'strandlinelaw40.AuditChecks': WHATEVER THE INPUT: true; the input reads as it did. -/
def auditChecksSpec : ChangeSpec := { name := "auditChecks", fn := fun _ => fun
  | [d1, d2] => { results := [.lit (.bool true)], args := [d1, d2] }
  | _ => none }
def auditChecksRow : OpenClaim := { program := "ytoobcebmkfbdfaa", sum := "88c58959988196fc2942b792d4ea5f27a268a8b67ee5a98515755b0706cd66a8", func := "strandline/strandlinelaw40.AuditChecks", spec := "auditChecks", unfollowed := true, recurses := true, plainKeys := false, apart := false }
def AuditChecksSaid : Prop := auditChecksRow.holds Try.pinned (OpenSpec.ofChange auditChecksSpec)

/-- ITS FALSE NEIGHBOUR: 'it returns false'. Refute it at one input. -/
def auditChecksWrong : ChangeSpec := { name := "auditChecks", fn := fun _ => fun
  | [d1, d2] => { results := [.lit (.bool false)], args := [d1, d2] }
  | _ => none }
def AuditChecksWrongFalsely : Prop := auditChecksRow.holds Try.pinned (OpenSpec.ofChange auditChecksWrong)

/- THE SECOND FORM. 'bulk': how many values and letters a reading holds, each counted each time it is reached (what is shared counts as often as it is met; a slice's spare places count too). A statement '..UptoSaid' is the law's where the arguments, and the package variables that the reading takes, are together of bulk at most 1048576: NARROWER than '..Said'. Prove '..Said' where nothing that the law and all that it calls make is longer than what came in: it says more and counts as full. Else prove '..UptoSaid'. A law counts once. -/
mutual
def uptoBulk {H : Type} : DataW H → Nat
  | .lit (.string bytes) => bytes.length + 1
  | .lit _ => 1
  | .nil => 1
  | .ptr d => uptoBulk d + 1
  | .slice elems spare => uptoBulkAll elems + uptoBulkAll spare + 1
  | .agg parts => uptoBulkAll parts + 1
  | .iface _ d => uptoBulk d + 1
  | .map entries => uptoBulkEntries entries + 1
  | .held _ => 1
def uptoBulkAll {H : Type} : List (DataW H) → Nat
  | [] => 0
  | d :: r => uptoBulk d + uptoBulkAll r
def uptoBulkEntries {H : Type} : List (Lit × DataW H) → Nat
  | [] => 0
  | x :: r => uptoBulkEntry x + uptoBulkEntries r
def uptoBulkEntry {H : Type} : Lit × DataW H → Nat
  | (.string bytes, d) => bytes.length + uptoBulk d + 1
  | (_, d) => uptoBulk d + 1
 end
def uptoSmall : (H : Type) → List (DataW H) → Bool := fun _ ds => decide (uptoBulkAll ds ≤ 1048576)
def OpenSpec.upto (s : _root_.Go.ChangeSpec) : _root_.Go.OpenSpec := { _root_.Go.OpenSpec.ofChange s with cond := some uptoSmall }

/-- 'strandlinelaw12.BatchLasts', WHERE WHAT IT READS IS OF BULK AT MOST 1048576: true; the input reads as it did. -/
def batchLastsUptoRow : OpenClaim := { program := "ytoobcebmkfbdfaa", sum := "88c58959988196fc2942b792d4ea5f27a268a8b67ee5a98515755b0706cd66a8", func := "strandline/strandlinelaw12.BatchLasts", spec := "batchLasts", unfollowed := true, recurses := true, plainKeys := false, apart := false, narrowed := true }
def BatchLastsUptoSaid : Prop := batchLastsUptoRow.holds Try.pinned (OpenSpec.upto batchLastsSpec)

/-- 'strandlinelaw08.DiskLays', WHERE WHAT IT READS IS OF BULK AT MOST 1048576: true; the input reads as it did. -/
def diskLaysUptoRow : OpenClaim := { program := "ytoobcebmkfbdfaa", sum := "88c58959988196fc2942b792d4ea5f27a268a8b67ee5a98515755b0706cd66a8", func := "strandline/strandlinelaw08.DiskLays", spec := "diskLays", unfollowed := true, recurses := true, plainKeys := false, apart := false, narrowed := true }
def DiskLaysUptoSaid : Prop := diskLaysUptoRow.holds Try.pinned (OpenSpec.upto diskLaysSpec)

/-- 'strandlinelaw08.DiskPlays', WHERE WHAT IT READS IS OF BULK AT MOST 1048576: true; the input reads as it did. -/
def diskPlaysUptoRow : OpenClaim := { program := "ytoobcebmkfbdfaa", sum := "88c58959988196fc2942b792d4ea5f27a268a8b67ee5a98515755b0706cd66a8", func := "strandline/strandlinelaw08.DiskPlays", spec := "diskPlays", unfollowed := true, recurses := true, plainKeys := false, apart := false, narrowed := true }
def DiskPlaysUptoSaid : Prop := diskPlaysUptoRow.holds Try.pinned (OpenSpec.upto diskPlaysSpec)

/-- 'strandlinelaw08.DiskClones', WHERE WHAT IT READS IS OF BULK AT MOST 1048576: true; the input reads as it did. -/
def diskClonesUptoRow : OpenClaim := { program := "ytoobcebmkfbdfaa", sum := "88c58959988196fc2942b792d4ea5f27a268a8b67ee5a98515755b0706cd66a8", func := "strandline/strandlinelaw08.DiskClones", spec := "diskClones", unfollowed := true, recurses := true, plainKeys := false, apart := false, narrowed := true }
def DiskClonesUptoSaid : Prop := diskClonesUptoRow.holds Try.pinned (OpenSpec.upto diskClonesSpec)

/-- 'strandlinelaw21.PoolNobody', WHERE WHAT IT READS IS OF BULK AT MOST 1048576: true; the input reads as it did. -/
def poolNobodyUptoRow : OpenClaim := { program := "ytoobcebmkfbdfaa", sum := "88c58959988196fc2942b792d4ea5f27a268a8b67ee5a98515755b0706cd66a8", func := "strandline/strandlinelaw21.PoolNobody", spec := "poolNobody", unfollowed := true, recurses := true, plainKeys := false, apart := false, narrowed := true }
def PoolNobodyUptoSaid : Prop := poolNobodyUptoRow.holds Try.pinned (OpenSpec.upto poolNobodySpec)

/-- 'strandlinelaw21.PoolPlays', WHERE WHAT IT READS IS OF BULK AT MOST 1048576: true; the input reads as it did. -/
def poolPlaysUptoRow : OpenClaim := { program := "ytoobcebmkfbdfaa", sum := "88c58959988196fc2942b792d4ea5f27a268a8b67ee5a98515755b0706cd66a8", func := "strandline/strandlinelaw21.PoolPlays", spec := "poolPlays", unfollowed := true, recurses := true, plainKeys := false, apart := false, narrowed := true }
def PoolPlaysUptoSaid : Prop := poolPlaysUptoRow.holds Try.pinned (OpenSpec.upto poolPlaysSpec)

/-- 'strandlinelaw47.LedgerFolds', WHERE WHAT IT READS IS OF BULK AT MOST 1048576: true; the input reads as it did. -/
def ledgerFoldsUptoRow : OpenClaim := { program := "ytoobcebmkfbdfaa", sum := "88c58959988196fc2942b792d4ea5f27a268a8b67ee5a98515755b0706cd66a8", func := "strandline/strandlinelaw47.LedgerFolds", spec := "ledgerFolds", recurses := true, plainKeys := false, apart := false, narrowed := true }
def LedgerFoldsUptoSaid : Prop := ledgerFoldsUptoRow.holds Try.pinned (OpenSpec.upto ledgerFoldsSpec)

/-- 'strandlinelaw47.LedgerTells', WHERE WHAT IT READS IS OF BULK AT MOST 1048576: true; the input reads as it did. -/
def ledgerTellsUptoRow : OpenClaim := { program := "ytoobcebmkfbdfaa", sum := "88c58959988196fc2942b792d4ea5f27a268a8b67ee5a98515755b0706cd66a8", func := "strandline/strandlinelaw47.LedgerTells", spec := "ledgerTells", recurses := true, plainKeys := false, apart := false, narrowed := true }
def LedgerTellsUptoSaid : Prop := ledgerTellsUptoRow.holds Try.pinned (OpenSpec.upto ledgerTellsSpec)

/-- 'strandlinelaw40.AuditChecks', WHERE WHAT IT READS IS OF BULK AT MOST 1048576: true; the input reads as it did. -/
def auditChecksUptoRow : OpenClaim := { program := "ytoobcebmkfbdfaa", sum := "88c58959988196fc2942b792d4ea5f27a268a8b67ee5a98515755b0706cd66a8", func := "strandline/strandlinelaw40.AuditChecks", spec := "auditChecks", unfollowed := true, recurses := true, plainKeys := false, apart := false, narrowed := true }
def AuditChecksUptoSaid : Prop := auditChecksUptoRow.holds Try.pinned (OpenSpec.upto auditChecksSpec)

end Rows
end Go.Proofs.Ytoobcebmkfbdfaa
