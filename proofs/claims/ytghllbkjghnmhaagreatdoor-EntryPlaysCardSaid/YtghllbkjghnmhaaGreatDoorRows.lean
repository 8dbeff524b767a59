/-
  NARROWER THAN 'FOR EVERY INPUT', by the rows' own cells (each row's printed sentence says how): EntryPlays: laid · CompactFollows: laid.
  DERIVED. THE GIVEN ROWS OF THIS SEAT. 2 by the template 'for every input the law returns true; each argument reads behind the call as it read before'; 0 by the template 'total and deterministic' (their statements: YtghllbkjghnmhaaGreatDoorTotals.lean).
  GIVEN WITH THE SEED: the statements are not yours to turn. If you find one false, say at which input.
  Laid BY PROGRAM, IN A SANDBOX (cutbox-rows.mjs): the forced cells as the released guide's own fill.sh prints them over the translation 4cfdf64d24e274b7… (all of the seat's roots in one cut). By AI agents, Wed Nov 11 2026. No macro, syntax, notation, axiom, sorry.
-/
import Derived.Test.YtghllbkjghnmhaaGreatDoorChecked
import GoSem.Claim
import GoSem.ClaimJoined
import GoSem.ClaimMapViews
import Derived.JoinedTies
import Derived.KernelRfl
namespace Go.Proofs.YtghllbkjghnmhaaGreatDoor
/- THE CELL 'sum', in the pinned program and in every row, IS THE sha256 OF THE DUMP (.gsa) THAT YtghllbkjghnmhaaGreatDoorProg.lean LOADS. Nothing in Lean hashes anything: it is a label: what it is worth is what the hold of that sum in a sandbox is worth. -/
noncomputable def Tryz.pinned : Pinned := { name := "ytghllbkjghnmhaagreatdoor", sum := "4cfdf64d24e274b74c15df0314b0f8b9753416c026b98e6bd458a1484d142011", checked := Tryz.checked }
namespace Rows
def none {H : Type} : Left H := { results := [], args := [] }

/- WHAT THE LISTED PACKAGE-LEVEL VARIABLES READ AS WHEN THE CALL BEGINS. Each datum BY PROGRAM (the guide's laid-datum.mjs) off the statement by which the dump's own 'gosem.cut.vars' lays the variable. In a bare row this is a premise. The card (YtghllbkjghnmhaaGreatDoorCards.lean) ties it to the program's text. -/
def laid_columbarium_class_sizes {H : Type} : DataW H := .agg [.lit (.int .i64 0), .lit (.int .i64 32), .lit (.int .i64 48), .lit (.int .i64 64), .lit (.int .i64 96), .lit (.int .i64 128), .lit (.int .i64 192), .lit (.int .i64 256), .lit (.int .i64 384), .lit (.int .i64 512)]
def laid_columbarium_memory_fields {H : Type} : DataW H := .agg [.lit (.int .i64 8), .lit (.int .i64 12), .lit (.int .i64 16), .lit (.int .i64 20), .lit (.int .i64 24), .lit (.int .i64 28), .lit (.int .i64 32), .lit (.int .i64 36), .lit (.int .i64 40), .lit (.int .i64 44), .lit (.int .i64 48), .lit (.int .i64 52), .lit (.int .i64 56), .lit (.int .i64 60), .lit (.int .i64 64), .lit (.int .i64 68), .lit (.int .i64 72), .lit (.int .i64 80), .lit (.int .i64 84), .lit (.int .i64 88), .lit (.int .i64 92)]
def laid_columbarium_head_nowhere {H : Type} : DataW H := .agg [.lit (.int .i64 0), .lit (.int .i64 0)]
def laid_columbarium_head_common {H : Type} : DataW H := .agg [.agg [.lit (.int .i64 0), .lit (.int .i64 1)], .agg [.lit (.int .i64 1), .lit (.int .i64 1)], .agg [.lit (.int .i64 2), .lit (.int .i64 1)], .agg [.lit (.int .i64 3), .lit (.int .i64 1)], .agg [.lit (.int .i64 4), .lit (.int .i64 4)]]
def laid_columbarium_head_own {H : Type} : DataW H := .agg [.agg [.lit (.int .i64 8), .lit (.int .i64 4)], .agg [.lit (.int .i64 12), .lit (.int .i64 4)], .agg [.lit (.int .i64 16), .lit (.int .i64 8)], .agg [.lit (.int .i64 24), .lit (.int .i64 2)], .agg [.lit (.int .i64 26), .lit (.int .i64 2)], .agg [.lit (.int .i64 28), .lit (.int .i64 4)]]

/-- 'columbariumlaw24.EntryPlays': WHATEVER THE INPUT: true; the input reads as it did. -/
def entryPlaysSpec : ChangeSpec := { name := "entryPlays", fn := fun _ => fun
  | [d] => { results := [.lit (.bool true)], args := [d] }
  | _ => none }
def entryPlaysRow : OpenClaim := { program := "ytghllbkjghnmhaagreatdoor", sum := "4cfdf64d24e274b74c15df0314b0f8b9753416c026b98e6bd458a1484d142011", func := "columbarium/columbariumlaw24.EntryPlays", spec := "entryPlays", inPlace := ["internal/abi.NoEscape", "internal/bytealg.MakeNoZero"], unfollowed := true, recurses := true, named := ["columbarium/memory.fields", "columbarium/class.sizes", "columbarium/head.nowhere", "columbarium/head.common", "columbarium/head.own"], apart := false, laid := [("columbarium/class.sizes", laid_columbarium_class_sizes), ("columbarium/memory.fields", laid_columbarium_memory_fields), ("columbarium/head.nowhere", laid_columbarium_head_nowhere), ("columbarium/head.common", laid_columbarium_head_common), ("columbarium/head.own", laid_columbarium_head_own)] }
def EntryPlaysSaid : Prop := entryPlaysRow.holds Tryz.pinned (OpenSpec.ofChange entryPlaysSpec)

/-- ITS FALSE NEIGHBOUR: 'it returns false'. Refute it at one input. -/
def entryPlaysWrong : ChangeSpec := { name := "entryPlays", fn := fun _ => fun
  | [d] => { results := [.lit (.bool false)], args := [d] }
  | _ => none }
def EntryPlaysWrongFalsely : Prop := entryPlaysRow.holds Tryz.pinned (OpenSpec.ofChange entryPlaysWrong)

/-- 'columbariumlaw26.CompactFollows': WHATEVER THE INPUT: true; the input reads as it did. -/
def compactFollowsSpec : ChangeSpec := { name := "compactFollows", fn := fun _ => fun
  | [d1, d2] => { results := [.lit (.bool true)], args := [d1, d2] }
  | _ => none }
def compactFollowsRow : OpenClaim := { program := "ytghllbkjghnmhaagreatdoor", sum := "4cfdf64d24e274b74c15df0314b0f8b9753416c026b98e6bd458a1484d142011", func := "columbarium/columbariumlaw26.CompactFollows", spec := "compactFollows", inPlace := ["internal/abi.NoEscape", "internal/bytealg.MakeNoZero"], unfollowed := true, recurses := true, named := ["columbarium/memory.fields", "columbarium/class.sizes", "columbarium/head.nowhere", "columbarium/head.common", "columbarium/head.own"], apart := false, laid := [("columbarium/class.sizes", laid_columbarium_class_sizes), ("columbarium/memory.fields", laid_columbarium_memory_fields), ("columbarium/head.nowhere", laid_columbarium_head_nowhere), ("columbarium/head.common", laid_columbarium_head_common), ("columbarium/head.own", laid_columbarium_head_own)] }
def CompactFollowsSaid : Prop := compactFollowsRow.holds Tryz.pinned (OpenSpec.ofChange compactFollowsSpec)

/-- ITS FALSE NEIGHBOUR: 'it returns false'. Refute it at one input. -/
def compactFollowsWrong : ChangeSpec := { name := "compactFollows", fn := fun _ => fun
  | [d1, d2] => { results := [.lit (.bool false)], args := [d1, d2] }
  | _ => none }
def CompactFollowsWrongFalsely : Prop := compactFollowsRow.holds Tryz.pinned (OpenSpec.ofChange compactFollowsWrong)

/- THE SECOND FORM. 'bulk': how many values and letters a reading holds, each counted each time it is reached (what is shared counts as often as it is met; a slice's spare places count too). A statement '..UptoSaid' is the law's where the arguments, and the package variables that the reading takes, are together of bulk at most 1048576: NARROWER than '..Said'. Prove '..Said' where nothing that the law and all that it calls make is longer than what came in: it says more and counts as full. Else prove '..UptoSaid'. A law counts once. -/
mutual
def uptoBulk {H : Type} : DataW H → Nat
  | .lit (.string bytes) => bytes.length + 1
  | .lit _ => 1
  | .nil => 1
  | .ptr d => uptoBulk d + 1
  | .slice elems spare => uptoBulkAll elems + uptoBulkAll spare + 1
  | .agg parts => uptoBulkAll parts + 1
  | .iface _ d => uptoBulk d + 1
  | .map entries => uptoBulkEntries entries + 1
  | .held _ => 1
def uptoBulkAll {H : Type} : List (DataW H) → Nat
  | [] => 0
  | d :: r => uptoBulk d + uptoBulkAll r
def uptoBulkEntries {H : Type} : List (Lit × DataW H) → Nat
  | [] => 0
  | x :: r => uptoBulkEntry x + uptoBulkEntries r
def uptoBulkEntry {H : Type} : Lit × DataW H → Nat
  | (.string bytes, d) => bytes.length + uptoBulk d + 1
  | (_, d) => uptoBulk d + 1
 end
def uptoSmall : (H : Type) → List (DataW H) → Bool := fun _ ds => decide (uptoBulkAll ds ≤ 1048576)
def OpenSpec.upto (s : _root_.Go.ChangeSpec) : _root_.Go.OpenSpec := { _root_.Go.OpenSpec.ofChange s with cond := some uptoSmall }

/-- 'columbariumlaw24.EntryPlays', WHERE WHAT IT READS IS OF BULK AT MOST 1048576: true; the input reads as it did. -/
def entryPlaysUptoRow : OpenClaim := { program := "ytghllbkjghnmhaagreatdoor", sum := "4cfdf64d24e274b74c15df0314b0f8b9753416c026b98e6bd458a1484d142011", func := "columbarium/columbariumlaw24.EntryPlays", spec := "entryPlays", inPlace := ["internal/abi.NoEscape", "internal/bytealg.MakeNoZero"], unfollowed := true, recurses := true, named := ["columbarium/memory.fields", "columbarium/class.sizes", "columbarium/head.nowhere", "columbarium/head.common", "columbarium/head.own"], apart := false, laid := [("columbarium/class.sizes", laid_columbarium_class_sizes), ("columbarium/memory.fields", laid_columbarium_memory_fields), ("columbarium/head.nowhere", laid_columbarium_head_nowhere), ("columbarium/head.common", laid_columbarium_head_common), ("columbarium/head.own", laid_columbarium_head_own)], narrowed := true }
def EntryPlaysUptoSaid : Prop := entryPlaysUptoRow.holds Tryz.pinned (OpenSpec.upto entryPlaysSpec)

/-- 'columbariumlaw26.CompactFollows', WHERE WHAT IT READS IS OF BULK AT MOST 1048576: true; the input reads as it did. -/
def compactFollowsUptoRow : OpenClaim := { program := "ytghllbkjghnmhaagreatdoor", sum := "4cfdf64d24e274b74c15df0314b0f8b9753416c026b98e6bd458a1484d142011", func := "columbarium/columbariumlaw26.CompactFollows", spec := "compactFollows", inPlace := ["internal/abi.NoEscape", "internal/bytealg.MakeNoZero"], unfollowed := true, recurses := true, named := ["columbarium/memory.fields", "columbarium/class.sizes", "columbarium/head.nowhere", "columbarium/head.common", "columbarium/head.own"], apart := false, laid := [("columbarium/class.sizes", laid_columbarium_class_sizes), ("columbarium/memory.fields", laid_columbarium_memory_fields), ("columbarium/head.nowhere", laid_columbarium_head_nowhere), ("columbarium/head.common", laid_columbarium_head_common), ("columbarium/head.own", laid_columbarium_head_own)], narrowed := true }
def CompactFollowsUptoSaid : Prop := compactFollowsUptoRow.holds Tryz.pinned (OpenSpec.upto compactFollowsSpec)

end Rows
end Go.Proofs.YtghllbkjghnmhaaGreatDoor
