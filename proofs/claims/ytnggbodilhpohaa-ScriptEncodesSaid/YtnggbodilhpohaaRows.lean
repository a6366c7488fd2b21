/-
  No cell of these rows narrows 'for every input' (looked for: loops, veiled, ifaces, maps, wideKeys, modest, calm, conditions, laid).
  DERIVED. THE GIVEN ROWS OF THIS SEAT. 11 by the template 'for every input the law returns true; each argument reads behind the call as it read before'; 0 by the template 'total and deterministic' (their statements: YtnggbodilhpohaaTotals.lean).
  GIVEN WITH THE SEED: the statements are not yours to turn. If you find one false, say at which input.
  Laid BY PROGRAM, IN A SANDBOX (cutbox-rows.mjs): the forced cells as the released guide's own fill.sh prints them over the translation a65c0e7d641a3894… (all of the seat's roots in one cut). By AI agents, Wed Nov 11 2026. No macro, syntax, notation, axiom, sorry.
-/
import Derived.Test.YtnggbodilhpohaaChecked
import GoSem.Claim
import GoSem.ClaimJoined
import GoSem.ClaimMapViews
import Derived.JoinedTies
import Derived.KernelRfl
namespace Go.Proofs.Ytnggbodilhpohaa
/- THE CELL 'sum', in the pinned program and in every row, IS THE sha256 OF THE DUMP (.gsa) THAT YtnggbodilhpohaaProg.lean LOADS. Nothing in Lean hashes anything: it is a label: what it is worth is what the hold of that sum in a sandbox is worth. -/
noncomputable def Try.pinned : Pinned := { name := "ytnggbodilhpohaa", sum := "a65c0e7d641a38945081545e68b9ebef7f7fe2832425bd0c4f82572323615582", checked := Try.checked }
namespace Rows
def none {H : Type} : Left H := { results := [], args := [] }

/-- 'strandlinelaw10.OpSames': WHATEVER THE INPUT: true; the input reads as it did. -/
def opSamesSpec : ChangeSpec := { name := "opSames", fn := fun _ => fun
  | [d1, d2] => { results := [.lit (.bool true)], args := [d1, d2] }
  | _ => none }
def opSamesRow : OpenClaim := { program := "ytnggbodilhpohaa", sum := "a65c0e7d641a38945081545e68b9ebef7f7fe2832425bd0c4f82572323615582", func := "strandline/strandlinelaw10.OpSames", spec := "opSames", apart := false }
def OpSamesSaid : Prop := opSamesRow.holds Try.pinned (OpenSpec.ofChange opSamesSpec)

/-- ITS FALSE NEIGHBOUR: 'it returns false'. Refute it at one input. -/
def opSamesWrong : ChangeSpec := { name := "opSames", fn := fun _ => fun
  | [d1, d2] => { results := [.lit (.bool false)], args := [d1, d2] }
  | _ => none }
def OpSamesWrongFalsely : Prop := opSamesRow.holds Try.pinned (OpenSpec.ofChange opSamesWrong)

/-- 'strandlinelaw25.LiveChecks': WHATEVER THE INPUT: true; the input reads as it did. -/
def liveChecksSpec : ChangeSpec := { name := "liveChecks", fn := fun _ => fun
  | [d] => { results := [.lit (.bool true)], args := [d] }
  | _ => none }
def liveChecksRow : OpenClaim := { program := "ytnggbodilhpohaa", sum := "a65c0e7d641a38945081545e68b9ebef7f7fe2832425bd0c4f82572323615582", func := "strandline/strandlinelaw25.LiveChecks", spec := "liveChecks", unfollowed := true, recurses := true, apart := false }
def LiveChecksSaid : Prop := liveChecksRow.holds Try.pinned (OpenSpec.ofChange liveChecksSpec)

/-- ITS FALSE NEIGHBOUR: 'it returns false'. Refute it at one input. -/
def liveChecksWrong : ChangeSpec := { name := "liveChecks", fn := fun _ => fun
  | [d] => { results := [.lit (.bool false)], args := [d] }
  | _ => none }
def LiveChecksWrongFalsely : Prop := liveChecksRow.holds Try.pinned (OpenSpec.ofChange liveChecksWrong)

/-- 'strandlinelaw05.NameTells': WHATEVER THE INPUT: true; the input reads as it did. -/
def nameTellsSpec : ChangeSpec := { name := "nameTells", fn := fun _ => fun
  | [d] => { results := [.lit (.bool true)], args := [d] }
  | _ => none }
def nameTellsRow : OpenClaim := { program := "ytnggbodilhpohaa", sum := "a65c0e7d641a38945081545e68b9ebef7f7fe2832425bd0c4f82572323615582", func := "strandline/strandlinelaw05.NameTells", spec := "nameTells", recurses := true, apart := false }
def NameTellsSaid : Prop := nameTellsRow.holds Try.pinned (OpenSpec.ofChange nameTellsSpec)

/-- ITS FALSE NEIGHBOUR: 'it returns false'. Refute it at one input. -/
def nameTellsWrong : ChangeSpec := { name := "nameTells", fn := fun _ => fun
  | [d] => { results := [.lit (.bool false)], args := [d] }
  | _ => none }
def NameTellsWrongFalsely : Prop := nameTellsRow.holds Try.pinned (OpenSpec.ofChange nameTellsWrong)

/-- 'strandlinelaw05.NameMakes': WHATEVER THE INPUT: true; the input reads as it did. -/
def nameMakesSpec : ChangeSpec := { name := "nameMakes", fn := fun _ => fun
  | [d] => { results := [.lit (.bool true)], args := [d] }
  | _ => none }
def nameMakesRow : OpenClaim := { program := "ytnggbodilhpohaa", sum := "a65c0e7d641a38945081545e68b9ebef7f7fe2832425bd0c4f82572323615582", func := "strandline/strandlinelaw05.NameMakes", spec := "nameMakes", recurses := true, apart := false }
def NameMakesSaid : Prop := nameMakesRow.holds Try.pinned (OpenSpec.ofChange nameMakesSpec)

/-- ITS FALSE NEIGHBOUR: 'it returns false'. Refute it at one input. -/
def nameMakesWrong : ChangeSpec := { name := "nameMakes", fn := fun _ => fun
  | [d] => { results := [.lit (.bool false)], args := [d] }
  | _ => none }
def NameMakesWrongFalsely : Prop := nameMakesRow.holds Try.pinned (OpenSpec.ofChange nameMakesWrong)

/-- 'strandlinelaw10.OpPuts': WHATEVER THE INPUT: true; the input reads as it did. -/
def opPutsSpec : ChangeSpec := { name := "opPuts", fn := fun _ => fun
  | [d1, d2, d3] => { results := [.lit (.bool true)], args := [d1, d2, d3] }
  | _ => none }
def opPutsRow : OpenClaim := { program := "ytnggbodilhpohaa", sum := "a65c0e7d641a38945081545e68b9ebef7f7fe2832425bd0c4f82572323615582", func := "strandline/strandlinelaw10.OpPuts", spec := "opPuts", unfollowed := true, recurses := true, apart := false }
def OpPutsSaid : Prop := opPutsRow.holds Try.pinned (OpenSpec.ofChange opPutsSpec)

/-- ITS FALSE NEIGHBOUR: 'it returns false'. Refute it at one input. -/
def opPutsWrong : ChangeSpec := { name := "opPuts", fn := fun _ => fun
  | [d1, d2, d3] => { results := [.lit (.bool false)], args := [d1, d2, d3] }
  | _ => none }
def OpPutsWrongFalsely : Prop := opPutsRow.holds Try.pinned (OpenSpec.ofChange opPutsWrong)

/-- 'strandlinelaw10.OpGets': WHATEVER THE INPUT: true; the input reads as it did. -/
def opGetsSpec : ChangeSpec := { name := "opGets", fn := fun _ => fun
  | [d] => { results := [.lit (.bool true)], args := [d] }
  | _ => none }
def opGetsRow : OpenClaim := { program := "ytnggbodilhpohaa", sum := "a65c0e7d641a38945081545e68b9ebef7f7fe2832425bd0c4f82572323615582", func := "strandline/strandlinelaw10.OpGets", spec := "opGets", unfollowed := true, recurses := true, apart := false }
def OpGetsSaid : Prop := opGetsRow.holds Try.pinned (OpenSpec.ofChange opGetsSpec)

/-- ITS FALSE NEIGHBOUR: 'it returns false'. Refute it at one input. -/
def opGetsWrong : ChangeSpec := { name := "opGets", fn := fun _ => fun
  | [d] => { results := [.lit (.bool false)], args := [d] }
  | _ => none }
def OpGetsWrongFalsely : Prop := opGetsRow.holds Try.pinned (OpenSpec.ofChange opGetsWrong)

/-- 'strandlinelaw12.BatchEncodes': WHATEVER THE INPUT: true; the input reads as it did. -/
def batchEncodesSpec : ChangeSpec := { name := "batchEncodes", fn := fun _ => fun
  | [d] => { results := [.lit (.bool true)], args := [d] }
  | _ => none }
def batchEncodesRow : OpenClaim := { program := "ytnggbodilhpohaa", sum := "a65c0e7d641a38945081545e68b9ebef7f7fe2832425bd0c4f82572323615582", func := "strandline/strandlinelaw12.BatchEncodes", spec := "batchEncodes", unfollowed := true, recurses := true, apart := false }
def BatchEncodesSaid : Prop := batchEncodesRow.holds Try.pinned (OpenSpec.ofChange batchEncodesSpec)

/-- ITS FALSE NEIGHBOUR: 'it returns false'. Refute it at one input. -/
def batchEncodesWrong : ChangeSpec := { name := "batchEncodes", fn := fun _ => fun
  | [d] => { results := [.lit (.bool false)], args := [d] }
  | _ => none }
def BatchEncodesWrongFalsely : Prop := batchEncodesRow.holds Try.pinned (OpenSpec.ofChange batchEncodesWrong)

/-- 'strandlinelaw12.BatchDecodes': WHATEVER THE INPUT: true; the input reads as it did. -/
def batchDecodesSpec : ChangeSpec := { name := "batchDecodes", fn := fun _ => fun
  | [d] => { results := [.lit (.bool true)], args := [d] }
  | _ => none }
def batchDecodesRow : OpenClaim := { program := "ytnggbodilhpohaa", sum := "a65c0e7d641a38945081545e68b9ebef7f7fe2832425bd0c4f82572323615582", func := "strandline/strandlinelaw12.BatchDecodes", spec := "batchDecodes", unfollowed := true, recurses := true, apart := false }
def BatchDecodesSaid : Prop := batchDecodesRow.holds Try.pinned (OpenSpec.ofChange batchDecodesSpec)

/-- ITS FALSE NEIGHBOUR: 'it returns false'. Refute it at one input. -/
def batchDecodesWrong : ChangeSpec := { name := "batchDecodes", fn := fun _ => fun
  | [d] => { results := [.lit (.bool false)], args := [d] }
  | _ => none }
def BatchDecodesWrongFalsely : Prop := batchDecodesRow.holds Try.pinned (OpenSpec.ofChange batchDecodesWrong)

/-- 'strandlinelaw38.ScriptEncodes': WHATEVER THE INPUT: true; the input reads as it did. -/
def scriptEncodesSpec : ChangeSpec := { name := "scriptEncodes", fn := fun _ => fun
  | [d] => { results := [.lit (.bool true)], args := [d] }
  | _ => none }
def scriptEncodesRow : OpenClaim := { program := "ytnggbodilhpohaa", sum := "a65c0e7d641a38945081545e68b9ebef7f7fe2832425bd0c4f82572323615582", func := "strandline/strandlinelaw38.ScriptEncodes", spec := "scriptEncodes", unfollowed := true, recurses := true, apart := false }
def ScriptEncodesSaid : Prop := scriptEncodesRow.holds Try.pinned (OpenSpec.ofChange scriptEncodesSpec)

/-- ITS FALSE NEIGHBOUR: 'it returns false'. Refute it at one input. -/
def scriptEncodesWrong : ChangeSpec := { name := "scriptEncodes", fn := fun _ => fun
  | [d] => { results := [.lit (.bool false)], args := [d] }
  | _ => none }
def ScriptEncodesWrongFalsely : Prop := scriptEncodesRow.holds Try.pinned (OpenSpec.ofChange scriptEncodesWrong)

/-- 'strandlinelaw38.ScriptDecodes': WHATEVER THE INPUT: true; the input reads as it did. -/
def scriptDecodesSpec : ChangeSpec := { name := "scriptDecodes", fn := fun _ => fun
  | [d] => { results := [.lit (.bool true)], args := [d] }
  | _ => none }
def scriptDecodesRow : OpenClaim := { program := "ytnggbodilhpohaa", sum := "a65c0e7d641a38945081545e68b9ebef7f7fe2832425bd0c4f82572323615582", func := "strandline/strandlinelaw38.ScriptDecodes", spec := "scriptDecodes", unfollowed := true, recurses := true, apart := false }
def ScriptDecodesSaid : Prop := scriptDecodesRow.holds Try.pinned (OpenSpec.ofChange scriptDecodesSpec)

/-- ITS FALSE NEIGHBOUR: 'it returns false'. Refute it at one input. -/
def scriptDecodesWrong : ChangeSpec := { name := "scriptDecodes", fn := fun _ => fun
  | [d] => { results := [.lit (.bool false)], args := [d] }
  | _ => none }
def ScriptDecodesWrongFalsely : Prop := scriptDecodesRow.holds Try.pinned (OpenSpec.ofChange scriptDecodesWrong)

/-- 'strandlinelaw38.ScriptSames': WHATEVER THE INPUT: true; the input reads as it did. -/
def scriptSamesSpec : ChangeSpec := { name := "scriptSames", fn := fun _ => fun
  | [d1, d2] => { results := [.lit (.bool true)], args := [d1, d2] }
  | _ => none }
def scriptSamesRow : OpenClaim := { program := "ytnggbodilhpohaa", sum := "a65c0e7d641a38945081545e68b9ebef7f7fe2832425bd0c4f82572323615582", func := "strandline/strandlinelaw38.ScriptSames", spec := "scriptSames", unfollowed := true, recurses := true, apart := false }
def ScriptSamesSaid : Prop := scriptSamesRow.holds Try.pinned (OpenSpec.ofChange scriptSamesSpec)

/-- ITS FALSE NEIGHBOUR: 'it returns false'. Refute it at one input. -/
def scriptSamesWrong : ChangeSpec := { name := "scriptSames", fn := fun _ => fun
  | [d1, d2] => { results := [.lit (.bool false)], args := [d1, d2] }
  | _ => none }
def ScriptSamesWrongFalsely : Prop := scriptSamesRow.holds Try.pinned (OpenSpec.ofChange scriptSamesWrong)

/- THE SECOND FORM. 'bulk': how many values and letters a reading holds, each counted each time it is reached (what is shared counts as often as it is met; a slice's spare places count too). A statement '..UptoSaid' is the law's where the arguments, and the package variables that the reading takes, are together of bulk at most 1048576: NARROWER than '..Said'. Prove '..Said' where nothing that the law and all that it calls make is longer than what came in: it says more and counts as full. Else prove '..UptoSaid'. A law counts once. -/
mutual
def uptoBulk {H : Type} : DataW H → Nat
  | .lit (.string bytes) => bytes.length + 1
  | .lit _ => 1
  | .nil => 1
  | .ptr d => uptoBulk d + 1
  | .slice elems spare => uptoBulkAll elems + uptoBulkAll spare + 1
  | .agg parts => uptoBulkAll parts + 1
  | .iface _ d => uptoBulk d + 1
  | .map entries => uptoBulkEntries entries + 1
  | .held _ => 1
def uptoBulkAll {H : Type} : List (DataW H) → Nat
  | [] => 0
  | d :: r => uptoBulk d + uptoBulkAll r
def uptoBulkEntries {H : Type} : List (Lit × DataW H) → Nat
  | [] => 0
  | x :: r => uptoBulkEntry x + uptoBulkEntries r
def uptoBulkEntry {H : Type} : Lit × DataW H → Nat
  | (.string bytes, d) => bytes.length + uptoBulk d + 1
  | (_, d) => uptoBulk d + 1
 end
def uptoSmall : (H : Type) → List (DataW H) → Bool := fun _ ds => decide (uptoBulkAll ds ≤ 1048576)
def OpenSpec.upto (s : _root_.Go.ChangeSpec) : _root_.Go.OpenSpec := { _root_.Go.OpenSpec.ofChange s with cond := some uptoSmall }

/-- 'strandlinelaw10.OpSames', WHERE WHAT IT READS IS OF BULK AT MOST 1048576: true; the input reads as it did. -/
def opSamesUptoRow : OpenClaim := { program := "ytnggbodilhpohaa", sum := "a65c0e7d641a38945081545e68b9ebef7f7fe2832425bd0c4f82572323615582", func := "strandline/strandlinelaw10.OpSames", spec := "opSames", apart := false, narrowed := true }
def OpSamesUptoSaid : Prop := opSamesUptoRow.holds Try.pinned (OpenSpec.upto opSamesSpec)

/-- 'strandlinelaw25.LiveChecks', WHERE WHAT IT READS IS OF BULK AT MOST 1048576: true; the input reads as it did. -/
def liveChecksUptoRow : OpenClaim := { program := "ytnggbodilhpohaa", sum := "a65c0e7d641a38945081545e68b9ebef7f7fe2832425bd0c4f82572323615582", func := "strandline/strandlinelaw25.LiveChecks", spec := "liveChecks", unfollowed := true, recurses := true, apart := false, narrowed := true }
def LiveChecksUptoSaid : Prop := liveChecksUptoRow.holds Try.pinned (OpenSpec.upto liveChecksSpec)

/-- 'strandlinelaw05.NameTells', WHERE WHAT IT READS IS OF BULK AT MOST 1048576: true; the input reads as it did. -/
def nameTellsUptoRow : OpenClaim := { program := "ytnggbodilhpohaa", sum := "a65c0e7d641a38945081545e68b9ebef7f7fe2832425bd0c4f82572323615582", func := "strandline/strandlinelaw05.NameTells", spec := "nameTells", recurses := true, apart := false, narrowed := true }
def NameTellsUptoSaid : Prop := nameTellsUptoRow.holds Try.pinned (OpenSpec.upto nameTellsSpec)

/-- 'strandlinelaw05.NameMakes', WHERE WHAT IT READS IS OF BULK AT MOST 1048576: true; the input reads as it did. -/
def nameMakesUptoRow : OpenClaim := { program := "ytnggbodilhpohaa", sum := "a65c0e7d641a38945081545e68b9ebef7f7fe2832425bd0c4f82572323615582", func := "strandline/strandlinelaw05.NameMakes", spec := "nameMakes", recurses := true, apart := false, narrowed := true }
def NameMakesUptoSaid : Prop := nameMakesUptoRow.holds Try.pinned (OpenSpec.upto nameMakesSpec)

/-- 'strandlinelaw10.OpPuts', WHERE WHAT IT READS IS OF BULK AT MOST 1048576: true; the input reads as it did. -/
def opPutsUptoRow : OpenClaim := { program := "ytnggbodilhpohaa", sum := "a65c0e7d641a38945081545e68b9ebef7f7fe2832425bd0c4f82572323615582", func := "strandline/strandlinelaw10.OpPuts", spec := "opPuts", unfollowed := true, recurses := true, apart := false, narrowed := true }
def OpPutsUptoSaid : Prop := opPutsUptoRow.holds Try.pinned (OpenSpec.upto opPutsSpec)

/-- 'strandlinelaw10.OpGets', WHERE WHAT IT READS IS OF BULK AT MOST 1048576: true; the input reads as it did. -/
def opGetsUptoRow : OpenClaim := { program := "ytnggbodilhpohaa", sum := "a65c0e7d641a38945081545e68b9ebef7f7fe2832425bd0c4f82572323615582", func := "strandline/strandlinelaw10.OpGets", spec := "opGets", unfollowed := true, recurses := true, apart := false, narrowed := true }
def OpGetsUptoSaid : Prop := opGetsUptoRow.holds Try.pinned (OpenSpec.upto opGetsSpec)

/-- 'strandlinelaw12.BatchEncodes', WHERE WHAT IT READS IS OF BULK AT MOST 1048576: true; the input reads as it did. -/
def batchEncodesUptoRow : OpenClaim := { program := "ytnggbodilhpohaa", sum := "a65c0e7d641a38945081545e68b9ebef7f7fe2832425bd0c4f82572323615582", func := "strandline/strandlinelaw12.BatchEncodes", spec := "batchEncodes", unfollowed := true, recurses := true, apart := false, narrowed := true }
def BatchEncodesUptoSaid : Prop := batchEncodesUptoRow.holds Try.pinned (OpenSpec.upto batchEncodesSpec)

/-- 'strandlinelaw12.BatchDecodes', WHERE WHAT IT READS IS OF BULK AT MOST 1048576: true; the input reads as it did. -/
def batchDecodesUptoRow : OpenClaim := { program := "ytnggbodilhpohaa", sum := "a65c0e7d641a38945081545e68b9ebef7f7fe2832425bd0c4f82572323615582", func := "strandline/strandlinelaw12.BatchDecodes", spec := "batchDecodes", unfollowed := true, recurses := true, apart := false, narrowed := true }
def BatchDecodesUptoSaid : Prop := batchDecodesUptoRow.holds Try.pinned (OpenSpec.upto batchDecodesSpec)

/-- 'strandlinelaw38.ScriptEncodes', WHERE WHAT IT READS IS OF BULK AT MOST 1048576: true; the input reads as it did. -/
def scriptEncodesUptoRow : OpenClaim := { program := "ytnggbodilhpohaa", sum := "a65c0e7d641a38945081545e68b9ebef7f7fe2832425bd0c4f82572323615582", func := "strandline/strandlinelaw38.ScriptEncodes", spec := "scriptEncodes", unfollowed := true, recurses := true, apart := false, narrowed := true }
def ScriptEncodesUptoSaid : Prop := scriptEncodesUptoRow.holds Try.pinned (OpenSpec.upto scriptEncodesSpec)

/-- 'strandlinelaw38.ScriptDecodes', WHERE WHAT IT READS IS OF BULK AT MOST 1048576: true; the input reads as it did. -/
def scriptDecodesUptoRow : OpenClaim := { program := "ytnggbodilhpohaa", sum := "a65c0e7d641a38945081545e68b9ebef7f7fe2832425bd0c4f82572323615582", func := "strandline/strandlinelaw38.ScriptDecodes", spec := "scriptDecodes", unfollowed := true, recurses := true, apart := false, narrowed := true }
def ScriptDecodesUptoSaid : Prop := scriptDecodesUptoRow.holds Try.pinned (OpenSpec.upto scriptDecodesSpec)

/-- 'strandlinelaw38.ScriptSames', WHERE WHAT IT READS IS OF BULK AT MOST 1048576: true; the input reads as it did. -/
def scriptSamesUptoRow : OpenClaim := { program := "ytnggbodilhpohaa", sum := "a65c0e7d641a38945081545e68b9ebef7f7fe2832425bd0c4f82572323615582", func := "strandline/strandlinelaw38.ScriptSames", spec := "scriptSames", unfollowed := true, recurses := true, apart := false, narrowed := true }
def ScriptSamesUptoSaid : Prop := scriptSamesUptoRow.holds Try.pinned (OpenSpec.upto scriptSamesSpec)

end Rows
end Go.Proofs.Ytnggbodilhpohaa
