/-
  NARROWER THAN 'FOR EVERY INPUT', by the rows' own cells (each row's printed sentence says how): LiveNobody: laid · WalNobody: laid · IterNobody: laid · KvNobody: laid · TxnNobody: laid · ExploreSafe: laid.
  DERIVED. THE GIVEN ROWS OF THIS SEAT. 6 by the template 'for every input the law returns true; each argument reads behind the call as it read before'; 0 by the template 'total and deterministic' (their statements: YtbeafehpjjojnaaGreatDoorTotals.lean).
  GIVEN WITH THE SEED: the statements are not yours to turn. If you find one false, say at which input.
  Laid BY PROGRAM, IN A SANDBOX (cutbox-rows.mjs): the forced cells as the released guide's own fill.sh prints them over the translation a2e822c06fdf96de… (all of the seat's roots in one cut). By AI agents, Wed Nov 11 2026. No macro, syntax, notation, axiom, sorry.
-/
import Derived.Test.YtbeafehpjjojnaaGreatDoorChecked
import GoSem.Claim
import GoSem.ClaimJoined
import GoSem.ClaimMapViews
import Derived.JoinedTies
import Derived.KernelRfl
namespace Go.Proofs.YtbeafehpjjojnaaGreatDoor
/- THE CELL 'sum', in the pinned program and in every row, IS THE sha256 OF THE DUMP (.gsa) THAT YtbeafehpjjojnaaGreatDoorProg.lean LOADS. Nothing in Lean hashes anything: it is a label: what it is worth is what the hold of that sum in a sandbox is worth. -/
noncomputable def Tryz.pinned : Pinned := { name := "ytbeafehpjjojnaagreatdoor", sum := "a2e822c06fdf96de02018a8254ccc20f0c8b9081dbb3b58a3298ae8c2f95963d", checked := Tryz.checked }
namespace Rows
def none {H : Type} : Left H := { results := [], args := [] }

/- WHAT THE LISTED PACKAGE-LEVEL VARIABLES READ AS WHEN THE CALL BEGINS. Each datum BY PROGRAM (the guide's laid-datum.mjs) off the statement by which the dump's own 'gosem.cut.vars' lays the variable. In a bare row this is a premise. The card (YtbeafehpjjojnaaGreatDoorCards.lean) ties it to the program's text. -/
def laid_strandline_crc_half {H : Type} : DataW H := .agg [.lit (.int .u32 0), .lit (.int .u32 274646895), .lit (.int .u32 549293790), .lit (.int .u32 820201905), .lit (.int .u32 1098587580), .lit (.int .u32 1361435347), .lit (.int .u32 1640403810), .lit (.int .u32 1905808397), .lit (.int .u32 2197175160), .lit (.int .u32 2460548119), .lit (.int .u32 2722870694), .lit (.int .u32 2987750089), .lit (.int .u32 3280807620), .lit (.int .u32 3553878443), .lit (.int .u32 3811616794), .lit (.int .u32 4084100981)]

/-- 'strandlinelaw25.LiveNobody': WHATEVER THE INPUT: true; the input reads as it did. -/
def liveNobodySpec : ChangeSpec := { name := "liveNobody", fn := fun _ => fun
  | [d] => { results := [.lit (.bool true)], args := [d] }
  | _ => none }
def liveNobodyRow : OpenClaim := { program := "ytbeafehpjjojnaagreatdoor", sum := "a2e822c06fdf96de02018a8254ccc20f0c8b9081dbb3b58a3298ae8c2f95963d", func := "strandline/strandlinelaw25.LiveNobody", spec := "liveNobody", unfollowed := true, recurses := true, named := ["strandline/crc.half"], plainKeys := false, apart := false, laid := [("strandline/crc.half", laid_strandline_crc_half)] }
def LiveNobodySaid : Prop := liveNobodyRow.holds Tryz.pinned (OpenSpec.ofChange liveNobodySpec)

/-- ITS FALSE NEIGHBOUR: 'it returns false'. Refute it at one input. -/
def liveNobodyWrong : ChangeSpec := { name := "liveNobody", fn := fun _ => fun
  | [d] => { results := [.lit (.bool false)], args := [d] }
  | _ => none }
def LiveNobodyWrongFalsely : Prop := liveNobodyRow.holds Tryz.pinned (OpenSpec.ofChange liveNobodyWrong)

/-- 'strandlinelaw28.WalNobody': WHATEVER THE INPUT: true; the input reads as it did. -/
def walNobodySpec : ChangeSpec := { name := "walNobody", fn := fun _ => fun
  | [d1, d2, d3] => { results := [.lit (.bool true)], args := [d1, d2, d3] }
  | _ => none }
def walNobodyRow : OpenClaim := { program := "ytbeafehpjjojnaagreatdoor", sum := "a2e822c06fdf96de02018a8254ccc20f0c8b9081dbb3b58a3298ae8c2f95963d", func := "strandline/strandlinelaw28.WalNobody", spec := "walNobody", unfollowed := true, recurses := true, named := ["strandline/crc.half"], plainKeys := false, apart := false, laid := [("strandline/crc.half", laid_strandline_crc_half)] }
def WalNobodySaid : Prop := walNobodyRow.holds Tryz.pinned (OpenSpec.ofChange walNobodySpec)

/-- ITS FALSE NEIGHBOUR: 'it returns false'. Refute it at one input. -/
def walNobodyWrong : ChangeSpec := { name := "walNobody", fn := fun _ => fun
  | [d1, d2, d3] => { results := [.lit (.bool false)], args := [d1, d2, d3] }
  | _ => none }
def WalNobodyWrongFalsely : Prop := walNobodyRow.holds Tryz.pinned (OpenSpec.ofChange walNobodyWrong)

/-- 'strandlinelaw29.IterNobody': WHATEVER THE INPUT: true; the input reads as it did. -/
def iterNobodySpec : ChangeSpec := { name := "iterNobody", fn := fun _ => fun
  | [d1, d2] => { results := [.lit (.bool true)], args := [d1, d2] }
  | _ => none }
def iterNobodyRow : OpenClaim := { program := "ytbeafehpjjojnaagreatdoor", sum := "a2e822c06fdf96de02018a8254ccc20f0c8b9081dbb3b58a3298ae8c2f95963d", func := "strandline/strandlinelaw29.IterNobody", spec := "iterNobody", unfollowed := true, recurses := true, named := ["strandline/crc.half"], plainKeys := false, apart := false, laid := [("strandline/crc.half", laid_strandline_crc_half)] }
def IterNobodySaid : Prop := iterNobodyRow.holds Tryz.pinned (OpenSpec.ofChange iterNobodySpec)

/-- ITS FALSE NEIGHBOUR: 'it returns false'. Refute it at one input. -/
def iterNobodyWrong : ChangeSpec := { name := "iterNobody", fn := fun _ => fun
  | [d1, d2] => { results := [.lit (.bool false)], args := [d1, d2] }
  | _ => none }
def IterNobodyWrongFalsely : Prop := iterNobodyRow.holds Tryz.pinned (OpenSpec.ofChange iterNobodyWrong)

/-- 'strandlinelaw36.KvNobody': WHATEVER THE INPUT: true; the input reads as it did. -/
def kvNobodySpec : ChangeSpec := { name := "kvNobody", fn := fun _ => fun
  | [d1, d2] => { results := [.lit (.bool true)], args := [d1, d2] }
  | _ => none }
def kvNobodyRow : OpenClaim := { program := "ytbeafehpjjojnaagreatdoor", sum := "a2e822c06fdf96de02018a8254ccc20f0c8b9081dbb3b58a3298ae8c2f95963d", func := "strandline/strandlinelaw36.KvNobody", spec := "kvNobody", unfollowed := true, recurses := true, named := ["strandline/crc.half"], plainKeys := false, apart := false, laid := [("strandline/crc.half", laid_strandline_crc_half)] }
def KvNobodySaid : Prop := kvNobodyRow.holds Tryz.pinned (OpenSpec.ofChange kvNobodySpec)

/-- ITS FALSE NEIGHBOUR: 'it returns false'. Refute it at one input. -/
def kvNobodyWrong : ChangeSpec := { name := "kvNobody", fn := fun _ => fun
  | [d1, d2] => { results := [.lit (.bool false)], args := [d1, d2] }
  | _ => none }
def KvNobodyWrongFalsely : Prop := kvNobodyRow.holds Tryz.pinned (OpenSpec.ofChange kvNobodyWrong)

/-- 'strandlinelaw46.TxnNobody': WHATEVER THE INPUT: true; the input reads as it did. -/
def txnNobodySpec : ChangeSpec := { name := "txnNobody", fn := fun _ => fun
  | [d1, d2] => { results := [.lit (.bool true)], args := [d1, d2] }
  | _ => none }
def txnNobodyRow : OpenClaim := { program := "ytbeafehpjjojnaagreatdoor", sum := "a2e822c06fdf96de02018a8254ccc20f0c8b9081dbb3b58a3298ae8c2f95963d", func := "strandline/strandlinelaw46.TxnNobody", spec := "txnNobody", unfollowed := true, recurses := true, named := ["strandline/crc.half"], plainKeys := false, apart := false, laid := [("strandline/crc.half", laid_strandline_crc_half)] }
def TxnNobodySaid : Prop := txnNobodyRow.holds Tryz.pinned (OpenSpec.ofChange txnNobodySpec)

/-- ITS FALSE NEIGHBOUR: 'it returns false'. Refute it at one input. -/
def txnNobodyWrong : ChangeSpec := { name := "txnNobody", fn := fun _ => fun
  | [d1, d2] => { results := [.lit (.bool false)], args := [d1, d2] }
  | _ => none }
def TxnNobodyWrongFalsely : Prop := txnNobodyRow.holds Tryz.pinned (OpenSpec.ofChange txnNobodyWrong)

/-- 'strandlinelaw41.ExploreSafe': WHATEVER THE INPUT: true; the input reads as it did. -/
def exploreSafeSpec : ChangeSpec := { name := "exploreSafe", fn := fun _ => fun
  | [d] => { results := [.lit (.bool true)], args := [d] }
  | _ => none }
def exploreSafeRow : OpenClaim := { program := "ytbeafehpjjojnaagreatdoor", sum := "a2e822c06fdf96de02018a8254ccc20f0c8b9081dbb3b58a3298ae8c2f95963d", func := "strandline/strandlinelaw41.ExploreSafe", spec := "exploreSafe", unfollowed := true, recurses := true, named := ["strandline/crc.half"], plainKeys := false, apart := false, laid := [("strandline/crc.half", laid_strandline_crc_half)] }
def ExploreSafeSaid : Prop := exploreSafeRow.holds Tryz.pinned (OpenSpec.ofChange exploreSafeSpec)

/-- ITS FALSE NEIGHBOUR: 'it returns false'. Refute it at one input. -/
def exploreSafeWrong : ChangeSpec := { name := "exploreSafe", fn := fun _ => fun
  | [d] => { results := [.lit (.bool false)], args := [d] }
  | _ => none }
def ExploreSafeWrongFalsely : Prop := exploreSafeRow.holds Tryz.pinned (OpenSpec.ofChange exploreSafeWrong)

/- THE SECOND FORM. 'bulk': how many values and letters a reading holds, each counted each time it is reached (what is shared counts as often as it is met; a slice's spare places count too). A statement '..UptoSaid' is the law's where the arguments, and the package variables that the reading takes, are together of bulk at most 1048576: NARROWER than '..Said'. Prove '..Said' where nothing that the law and all that it calls make is longer than what came in: it says more and counts as full. Else prove '..UptoSaid'. A law counts once. -/
mutual
def uptoBulk {H : Type} : DataW H → Nat
  | .lit (.string bytes) => bytes.length + 1
  | .lit _ => 1
  | .nil => 1
  | .ptr d => uptoBulk d + 1
  | .slice elems spare => uptoBulkAll elems + uptoBulkAll spare + 1
  | .agg parts => uptoBulkAll parts + 1
  | .iface _ d => uptoBulk d + 1
  | .map entries => uptoBulkEntries entries + 1
  | .held _ => 1
def uptoBulkAll {H : Type} : List (DataW H) → Nat
  | [] => 0
  | d :: r => uptoBulk d + uptoBulkAll r
def uptoBulkEntries {H : Type} : List (Lit × DataW H) → Nat
  | [] => 0
  | x :: r => uptoBulkEntry x + uptoBulkEntries r
def uptoBulkEntry {H : Type} : Lit × DataW H → Nat
  | (.string bytes, d) => bytes.length + uptoBulk d + 1
  | (_, d) => uptoBulk d + 1
 end
def uptoSmall : (H : Type) → List (DataW H) → Bool := fun _ ds => decide (uptoBulkAll ds ≤ 1048576)
def OpenSpec.upto (s : _root_.Go.ChangeSpec) : _root_.Go.OpenSpec := { _root_.Go.OpenSpec.ofChange s with cond := some uptoSmall }

/-- 'strandlinelaw25.LiveNobody', WHERE WHAT IT READS IS OF BULK AT MOST 1048576: true; the input reads as it did. -/
def liveNobodyUptoRow : OpenClaim := { program := "ytbeafehpjjojnaagreatdoor", sum := "a2e822c06fdf96de02018a8254ccc20f0c8b9081dbb3b58a3298ae8c2f95963d", func := "strandline/strandlinelaw25.LiveNobody", spec := "liveNobody", unfollowed := true, recurses := true, named := ["strandline/crc.half"], plainKeys := false, apart := false, laid := [("strandline/crc.half", laid_strandline_crc_half)], narrowed := true }
def LiveNobodyUptoSaid : Prop := liveNobodyUptoRow.holds Tryz.pinned (OpenSpec.upto liveNobodySpec)

/-- 'strandlinelaw28.WalNobody', WHERE WHAT IT READS IS OF BULK AT MOST 1048576: true; the input reads as it did. -/
def walNobodyUptoRow : OpenClaim := { program := "ytbeafehpjjojnaagreatdoor", sum := "a2e822c06fdf96de02018a8254ccc20f0c8b9081dbb3b58a3298ae8c2f95963d", func := "strandline/strandlinelaw28.WalNobody", spec := "walNobody", unfollowed := true, recurses := true, named := ["strandline/crc.half"], plainKeys := false, apart := false, laid := [("strandline/crc.half", laid_strandline_crc_half)], narrowed := true }
def WalNobodyUptoSaid : Prop := walNobodyUptoRow.holds Tryz.pinned (OpenSpec.upto walNobodySpec)

/-- 'strandlinelaw29.IterNobody', WHERE WHAT IT READS IS OF BULK AT MOST 1048576: true; the input reads as it did. -/
def iterNobodyUptoRow : OpenClaim := { program := "ytbeafehpjjojnaagreatdoor", sum := "a2e822c06fdf96de02018a8254ccc20f0c8b9081dbb3b58a3298ae8c2f95963d", func := "strandline/strandlinelaw29.IterNobody", spec := "iterNobody", unfollowed := true, recurses := true, named := ["strandline/crc.half"], plainKeys := false, apart := false, laid := [("strandline/crc.half", laid_strandline_crc_half)], narrowed := true }
def IterNobodyUptoSaid : Prop := iterNobodyUptoRow.holds Tryz.pinned (OpenSpec.upto iterNobodySpec)

/-- 'strandlinelaw36.KvNobody', WHERE WHAT IT READS IS OF BULK AT MOST 1048576: true; the input reads as it did. -/
def kvNobodyUptoRow : OpenClaim := { program := "ytbeafehpjjojnaagreatdoor", sum := "a2e822c06fdf96de02018a8254ccc20f0c8b9081dbb3b58a3298ae8c2f95963d", func := "strandline/strandlinelaw36.KvNobody", spec := "kvNobody", unfollowed := true, recurses := true, named := ["strandline/crc.half"], plainKeys := false, apart := false, laid := [("strandline/crc.half", laid_strandline_crc_half)], narrowed := true }
def KvNobodyUptoSaid : Prop := kvNobodyUptoRow.holds Tryz.pinned (OpenSpec.upto kvNobodySpec)

/-- 'strandlinelaw46.TxnNobody', WHERE WHAT IT READS IS OF BULK AT MOST 1048576: true; the input reads as it did. -/
def txnNobodyUptoRow : OpenClaim := { program := "ytbeafehpjjojnaagreatdoor", sum := "a2e822c06fdf96de02018a8254ccc20f0c8b9081dbb3b58a3298ae8c2f95963d", func := "strandline/strandlinelaw46.TxnNobody", spec := "txnNobody", unfollowed := true, recurses := true, named := ["strandline/crc.half"], plainKeys := false, apart := false, laid := [("strandline/crc.half", laid_strandline_crc_half)], narrowed := true }
def TxnNobodyUptoSaid : Prop := txnNobodyUptoRow.holds Tryz.pinned (OpenSpec.upto txnNobodySpec)

/-- 'strandlinelaw41.ExploreSafe', WHERE WHAT IT READS IS OF BULK AT MOST 1048576: true; the input reads as it did. -/
def exploreSafeUptoRow : OpenClaim := { program := "ytbeafehpjjojnaagreatdoor", sum := "a2e822c06fdf96de02018a8254ccc20f0c8b9081dbb3b58a3298ae8c2f95963d", func := "strandline/strandlinelaw41.ExploreSafe", spec := "exploreSafe", unfollowed := true, recurses := true, named := ["strandline/crc.half"], plainKeys := false, apart := false, laid := [("strandline/crc.half", laid_strandline_crc_half)], narrowed := true }
def ExploreSafeUptoSaid : Prop := exploreSafeUptoRow.holds Tryz.pinned (OpenSpec.upto exploreSafeSpec)

end Rows
end Go.Proofs.YtbeafehpjjojnaaGreatDoor
