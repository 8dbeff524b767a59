/-
  NARROWER THAN 'FOR EVERY INPUT', by the rows' own cells (each row's printed sentence says how): NodeHeld: laid · NodeShares: laid · ChainShares: laid · ChainNames: laid · ChainBack: laid · ChainPlays: laid.
  DERIVED. THE GIVEN ROWS OF THIS SEAT. 6 by the template 'for every input the law returns true; each argument reads behind the call as it read before'; 0 by the template 'total and deterministic' (their statements: YtellbfamofilaaaGreatDoorTotals.lean).
  GIVEN WITH THE SEED: the statements are not yours to turn. If you find one false, say at which input.
  Laid BY PROGRAM, IN A SANDBOX (cutbox-rows.mjs): the forced cells as the released guide's own fill.sh prints them over the translation 6e17ac322fa8c589… (all of the seat's roots in one cut). By AI agents, Wed Nov 11 2026. No macro, syntax, notation, axiom, sorry.
-/
import Derived.Test.YtellbfamofilaaaGreatDoorChecked
import GoSem.Claim
import GoSem.ClaimJoined
import GoSem.ClaimMapViews
import Derived.JoinedTies
import Derived.KernelRfl
namespace Go.Proofs.YtellbfamofilaaaGreatDoor
/- THE CELL 'sum', in the pinned program and in every row, IS THE sha256 OF THE DUMP (.gsa) THAT YtellbfamofilaaaGreatDoorProg.lean LOADS. Nothing in Lean hashes anything: it is a label: what it is worth is what the hold of that sum in a sandbox is worth. -/
noncomputable def Tryz.pinned : Pinned := { name := "ytellbfamofilaaagreatdoor", sum := "6e17ac322fa8c589e3afdb975d3fc3f27bf4ac4b1d2c407590aa6c6e3157b1a0", checked := Tryz.checked }
namespace Rows
def none {H : Type} : Left H := { results := [], args := [] }

/- WHAT THE LISTED PACKAGE-LEVEL VARIABLES READ AS WHEN THE CALL BEGINS. Each datum BY PROGRAM (the guide's laid-datum.mjs) off the statement by which the dump's own 'gosem.cut.vars' lays the variable. In a bare row this is a premise. The card (YtellbfamofilaaaGreatDoorCards.lean) ties it to the program's text. -/
def laid_columbarium_class_sizes {H : Type} : DataW H := .agg [.lit (.int .i64 0), .lit (.int .i64 32), .lit (.int .i64 48), .lit (.int .i64 64), .lit (.int .i64 96), .lit (.int .i64 128), .lit (.int .i64 192), .lit (.int .i64 256), .lit (.int .i64 384), .lit (.int .i64 512)]
def laid_columbarium_memory_fields {H : Type} : DataW H := .agg [.lit (.int .i64 8), .lit (.int .i64 12), .lit (.int .i64 16), .lit (.int .i64 20), .lit (.int .i64 24), .lit (.int .i64 28), .lit (.int .i64 32), .lit (.int .i64 36), .lit (.int .i64 40), .lit (.int .i64 44), .lit (.int .i64 48), .lit (.int .i64 52), .lit (.int .i64 56), .lit (.int .i64 60), .lit (.int .i64 64), .lit (.int .i64 68), .lit (.int .i64 72), .lit (.int .i64 80), .lit (.int .i64 84), .lit (.int .i64 88), .lit (.int .i64 92)]
def laid_columbarium_head_nowhere {H : Type} : DataW H := .agg [.lit (.int .i64 0), .lit (.int .i64 0)]
def laid_columbarium_head_common {H : Type} : DataW H := .agg [.agg [.lit (.int .i64 0), .lit (.int .i64 1)], .agg [.lit (.int .i64 1), .lit (.int .i64 1)], .agg [.lit (.int .i64 2), .lit (.int .i64 1)], .agg [.lit (.int .i64 3), .lit (.int .i64 1)], .agg [.lit (.int .i64 4), .lit (.int .i64 4)]]
def laid_columbarium_head_own {H : Type} : DataW H := .agg [.agg [.lit (.int .i64 8), .lit (.int .i64 4)], .agg [.lit (.int .i64 12), .lit (.int .i64 4)], .agg [.lit (.int .i64 16), .lit (.int .i64 8)], .agg [.lit (.int .i64 24), .lit (.int .i64 2)], .agg [.lit (.int .i64 26), .lit (.int .i64 2)], .agg [.lit (.int .i64 28), .lit (.int .i64 4)]]

/-- 'columbariumlaw21.NodeHeld': WHATEVER THE INPUT: true; the input reads as it did. -/
def nodeHeldSpec : ChangeSpec := { name := "nodeHeld", fn := fun _ => fun
  | [d] => { results := [.lit (.bool true)], args := [d] }
  | _ => none }
def nodeHeldRow : OpenClaim := { program := "ytellbfamofilaaagreatdoor", sum := "6e17ac322fa8c589e3afdb975d3fc3f27bf4ac4b1d2c407590aa6c6e3157b1a0", func := "columbarium/columbariumlaw21.NodeHeld", spec := "nodeHeld", inPlace := ["internal/abi.NoEscape", "internal/bytealg.MakeNoZero"], unfollowed := true, recurses := true, named := ["columbarium/memory.fields", "columbarium/class.sizes", "columbarium/head.nowhere", "columbarium/head.common", "columbarium/head.own"], apart := false, laid := [("columbarium/class.sizes", laid_columbarium_class_sizes), ("columbarium/memory.fields", laid_columbarium_memory_fields), ("columbarium/head.nowhere", laid_columbarium_head_nowhere), ("columbarium/head.common", laid_columbarium_head_common), ("columbarium/head.own", laid_columbarium_head_own)] }
def NodeHeldSaid : Prop := nodeHeldRow.holds Tryz.pinned (OpenSpec.ofChange nodeHeldSpec)

/-- ITS FALSE NEIGHBOUR: 'it returns false'. Refute it at one input. -/
def nodeHeldWrong : ChangeSpec := { name := "nodeHeld", fn := fun _ => fun
  | [d] => { results := [.lit (.bool false)], args := [d] }
  | _ => none }
def NodeHeldWrongFalsely : Prop := nodeHeldRow.holds Tryz.pinned (OpenSpec.ofChange nodeHeldWrong)

/-- 'columbariumlaw21.NodeShares': WHATEVER THE INPUT: true; the input reads as it did. -/
def nodeSharesSpec : ChangeSpec := { name := "nodeShares", fn := fun _ => fun
  | [d] => { results := [.lit (.bool true)], args := [d] }
  | _ => none }
def nodeSharesRow : OpenClaim := { program := "ytellbfamofilaaagreatdoor", sum := "6e17ac322fa8c589e3afdb975d3fc3f27bf4ac4b1d2c407590aa6c6e3157b1a0", func := "columbarium/columbariumlaw21.NodeShares", spec := "nodeShares", inPlace := ["internal/abi.NoEscape", "internal/bytealg.MakeNoZero"], unfollowed := true, recurses := true, named := ["columbarium/memory.fields", "columbarium/class.sizes", "columbarium/head.nowhere", "columbarium/head.common", "columbarium/head.own"], apart := false, laid := [("columbarium/class.sizes", laid_columbarium_class_sizes), ("columbarium/memory.fields", laid_columbarium_memory_fields), ("columbarium/head.nowhere", laid_columbarium_head_nowhere), ("columbarium/head.common", laid_columbarium_head_common), ("columbarium/head.own", laid_columbarium_head_own)] }
def NodeSharesSaid : Prop := nodeSharesRow.holds Tryz.pinned (OpenSpec.ofChange nodeSharesSpec)

/-- ITS FALSE NEIGHBOUR: 'it returns false'. Refute it at one input. -/
def nodeSharesWrong : ChangeSpec := { name := "nodeShares", fn := fun _ => fun
  | [d] => { results := [.lit (.bool false)], args := [d] }
  | _ => none }
def NodeSharesWrongFalsely : Prop := nodeSharesRow.holds Tryz.pinned (OpenSpec.ofChange nodeSharesWrong)

/-- 'columbariumlaw22.ChainShares': WHATEVER THE INPUT: true; the input reads as it did. -/
def chainSharesSpec : ChangeSpec := { name := "chainShares", fn := fun _ => fun
  | [d] => { results := [.lit (.bool true)], args := [d] }
  | _ => none }
def chainSharesRow : OpenClaim := { program := "ytellbfamofilaaagreatdoor", sum := "6e17ac322fa8c589e3afdb975d3fc3f27bf4ac4b1d2c407590aa6c6e3157b1a0", func := "columbarium/columbariumlaw22.ChainShares", spec := "chainShares", inPlace := ["internal/abi.NoEscape", "internal/bytealg.MakeNoZero"], unfollowed := true, recurses := true, named := ["columbarium/memory.fields", "columbarium/class.sizes", "columbarium/head.nowhere", "columbarium/head.common", "columbarium/head.own"], apart := false, laid := [("columbarium/class.sizes", laid_columbarium_class_sizes), ("columbarium/memory.fields", laid_columbarium_memory_fields), ("columbarium/head.nowhere", laid_columbarium_head_nowhere), ("columbarium/head.common", laid_columbarium_head_common), ("columbarium/head.own", laid_columbarium_head_own)] }
def ChainSharesSaid : Prop := chainSharesRow.holds Tryz.pinned (OpenSpec.ofChange chainSharesSpec)

/-- ITS FALSE NEIGHBOUR: 'it returns false'. Refute it at one input. -/
def chainSharesWrong : ChangeSpec := { name := "chainShares", fn := fun _ => fun
  | [d] => { results := [.lit (.bool false)], args := [d] }
  | _ => none }
def ChainSharesWrongFalsely : Prop := chainSharesRow.holds Tryz.pinned (OpenSpec.ofChange chainSharesWrong)

/-- 'columbariumlaw22.ChainNames': WHATEVER THE INPUT: true; the input reads as it did. -/
def chainNamesSpec : ChangeSpec := { name := "chainNames", fn := fun _ => fun
  | [d] => { results := [.lit (.bool true)], args := [d] }
  | _ => none }
def chainNamesRow : OpenClaim := { program := "ytellbfamofilaaagreatdoor", sum := "6e17ac322fa8c589e3afdb975d3fc3f27bf4ac4b1d2c407590aa6c6e3157b1a0", func := "columbarium/columbariumlaw22.ChainNames", spec := "chainNames", inPlace := ["internal/abi.NoEscape", "internal/bytealg.MakeNoZero"], unfollowed := true, recurses := true, named := ["columbarium/memory.fields", "columbarium/class.sizes", "columbarium/head.nowhere", "columbarium/head.common", "columbarium/head.own"], apart := false, laid := [("columbarium/class.sizes", laid_columbarium_class_sizes), ("columbarium/memory.fields", laid_columbarium_memory_fields), ("columbarium/head.nowhere", laid_columbarium_head_nowhere), ("columbarium/head.common", laid_columbarium_head_common), ("columbarium/head.own", laid_columbarium_head_own)] }
def ChainNamesSaid : Prop := chainNamesRow.holds Tryz.pinned (OpenSpec.ofChange chainNamesSpec)

/-- ITS FALSE NEIGHBOUR: 'it returns false'. Refute it at one input. -/
def chainNamesWrong : ChangeSpec := { name := "chainNames", fn := fun _ => fun
  | [d] => { results := [.lit (.bool false)], args := [d] }
  | _ => none }
def ChainNamesWrongFalsely : Prop := chainNamesRow.holds Tryz.pinned (OpenSpec.ofChange chainNamesWrong)

/-- 'columbariumlaw22.ChainBack': WHATEVER THE INPUT: true; the input reads as it did. -/
def chainBackSpec : ChangeSpec := { name := "chainBack", fn := fun _ => fun
  | [d1, d2] => { results := [.lit (.bool true)], args := [d1, d2] }
  | _ => none }
def chainBackRow : OpenClaim := { program := "ytellbfamofilaaagreatdoor", sum := "6e17ac322fa8c589e3afdb975d3fc3f27bf4ac4b1d2c407590aa6c6e3157b1a0", func := "columbarium/columbariumlaw22.ChainBack", spec := "chainBack", inPlace := ["internal/abi.NoEscape", "internal/bytealg.MakeNoZero"], unfollowed := true, recurses := true, named := ["columbarium/memory.fields", "columbarium/class.sizes", "columbarium/head.nowhere", "columbarium/head.common", "columbarium/head.own"], apart := false, laid := [("columbarium/class.sizes", laid_columbarium_class_sizes), ("columbarium/memory.fields", laid_columbarium_memory_fields), ("columbarium/head.nowhere", laid_columbarium_head_nowhere), ("columbarium/head.common", laid_columbarium_head_common), ("columbarium/head.own", laid_columbarium_head_own)] }
def ChainBackSaid : Prop := chainBackRow.holds Tryz.pinned (OpenSpec.ofChange chainBackSpec)

/-- ITS FALSE NEIGHBOUR: 'it returns false'. Refute it at one input. -/
def chainBackWrong : ChangeSpec := { name := "chainBack", fn := fun _ => fun
  | [d1, d2] => { results := [.lit (.bool false)], args := [d1, d2] }
  | _ => none }
def ChainBackWrongFalsely : Prop := chainBackRow.holds Tryz.pinned (OpenSpec.ofChange chainBackWrong)

/-- 'columbariumlaw22.ChainPlays': WHATEVER THE INPUT: true; the input reads as it did. -/
def chainPlaysSpec : ChangeSpec := { name := "chainPlays", fn := fun _ => fun
  | [d] => { results := [.lit (.bool true)], args := [d] }
  | _ => none }
def chainPlaysRow : OpenClaim := { program := "ytellbfamofilaaagreatdoor", sum := "6e17ac322fa8c589e3afdb975d3fc3f27bf4ac4b1d2c407590aa6c6e3157b1a0", func := "columbarium/columbariumlaw22.ChainPlays", spec := "chainPlays", inPlace := ["internal/abi.NoEscape", "internal/bytealg.MakeNoZero"], unfollowed := true, recurses := true, named := ["columbarium/memory.fields", "columbarium/class.sizes", "columbarium/head.nowhere", "columbarium/head.common", "columbarium/head.own"], apart := false, laid := [("columbarium/class.sizes", laid_columbarium_class_sizes), ("columbarium/memory.fields", laid_columbarium_memory_fields), ("columbarium/head.nowhere", laid_columbarium_head_nowhere), ("columbarium/head.common", laid_columbarium_head_common), ("columbarium/head.own", laid_columbarium_head_own)] }
def ChainPlaysSaid : Prop := chainPlaysRow.holds Tryz.pinned (OpenSpec.ofChange chainPlaysSpec)

/-- ITS FALSE NEIGHBOUR: 'it returns false'. Refute it at one input. -/
def chainPlaysWrong : ChangeSpec := { name := "chainPlays", fn := fun _ => fun
  | [d] => { results := [.lit (.bool false)], args := [d] }
  | _ => none }
def ChainPlaysWrongFalsely : Prop := chainPlaysRow.holds Tryz.pinned (OpenSpec.ofChange chainPlaysWrong)

/- THE SECOND FORM. 'bulk': how many values and letters a reading holds, each counted each time it is reached (what is shared counts as often as it is met; a slice's spare places count too). A statement '..UptoSaid' is the law's where the arguments, and the package variables that the reading takes, are together of bulk at most 1048576: NARROWER than '..Said'. Prove '..Said' where nothing that the law and all that it calls make is longer than what came in: it says more and counts as full. Else prove '..UptoSaid'. A law counts once. -/
mutual
def uptoBulk {H : Type} : DataW H → Nat
  | .lit (.string bytes) => bytes.length + 1
  | .lit _ => 1
  | .nil => 1
  | .ptr d => uptoBulk d + 1
  | .slice elems spare => uptoBulkAll elems + uptoBulkAll spare + 1
  | .agg parts => uptoBulkAll parts + 1
  | .iface _ d => uptoBulk d + 1
  | .map entries => uptoBulkEntries entries + 1
  | .held _ => 1
def uptoBulkAll {H : Type} : List (DataW H) → Nat
  | [] => 0
  | d :: r => uptoBulk d + uptoBulkAll r
def uptoBulkEntries {H : Type} : List (Lit × DataW H) → Nat
  | [] => 0
  | x :: r => uptoBulkEntry x + uptoBulkEntries r
def uptoBulkEntry {H : Type} : Lit × DataW H → Nat
  | (.string bytes, d) => bytes.length + uptoBulk d + 1
  | (_, d) => uptoBulk d + 1
 end
def uptoSmall : (H : Type) → List (DataW H) → Bool := fun _ ds => decide (uptoBulkAll ds ≤ 1048576)
def OpenSpec.upto (s : _root_.Go.ChangeSpec) : _root_.Go.OpenSpec := { _root_.Go.OpenSpec.ofChange s with cond := some uptoSmall }

/-- 'columbariumlaw21.NodeHeld', WHERE WHAT IT READS IS OF BULK AT MOST 1048576: true; the input reads as it did. -/
def nodeHeldUptoRow : OpenClaim := { program := "ytellbfamofilaaagreatdoor", sum := "6e17ac322fa8c589e3afdb975d3fc3f27bf4ac4b1d2c407590aa6c6e3157b1a0", func := "columbarium/columbariumlaw21.NodeHeld", spec := "nodeHeld", inPlace := ["internal/abi.NoEscape", "internal/bytealg.MakeNoZero"], unfollowed := true, recurses := true, named := ["columbarium/memory.fields", "columbarium/class.sizes", "columbarium/head.nowhere", "columbarium/head.common", "columbarium/head.own"], apart := false, laid := [("columbarium/class.sizes", laid_columbarium_class_sizes), ("columbarium/memory.fields", laid_columbarium_memory_fields), ("columbarium/head.nowhere", laid_columbarium_head_nowhere), ("columbarium/head.common", laid_columbarium_head_common), ("columbarium/head.own", laid_columbarium_head_own)], narrowed := true }
def NodeHeldUptoSaid : Prop := nodeHeldUptoRow.holds Tryz.pinned (OpenSpec.upto nodeHeldSpec)

/-- 'columbariumlaw21.NodeShares', WHERE WHAT IT READS IS OF BULK AT MOST 1048576: true; the input reads as it did. -/
def nodeSharesUptoRow : OpenClaim := { program := "ytellbfamofilaaagreatdoor", sum := "6e17ac322fa8c589e3afdb975d3fc3f27bf4ac4b1d2c407590aa6c6e3157b1a0", func := "columbarium/columbariumlaw21.NodeShares", spec := "nodeShares", inPlace := ["internal/abi.NoEscape", "internal/bytealg.MakeNoZero"], unfollowed := true, recurses := true, named := ["columbarium/memory.fields", "columbarium/class.sizes", "columbarium/head.nowhere", "columbarium/head.common", "columbarium/head.own"], apart := false, laid := [("columbarium/class.sizes", laid_columbarium_class_sizes), ("columbarium/memory.fields", laid_columbarium_memory_fields), ("columbarium/head.nowhere", laid_columbarium_head_nowhere), ("columbarium/head.common", laid_columbarium_head_common), ("columbarium/head.own", laid_columbarium_head_own)], narrowed := true }
def NodeSharesUptoSaid : Prop := nodeSharesUptoRow.holds Tryz.pinned (OpenSpec.upto nodeSharesSpec)

/-- 'columbariumlaw22.ChainShares', WHERE WHAT IT READS IS OF BULK AT MOST 1048576: true; the input reads as it did. -/
def chainSharesUptoRow : OpenClaim := { program := "ytellbfamofilaaagreatdoor", sum := "6e17ac322fa8c589e3afdb975d3fc3f27bf4ac4b1d2c407590aa6c6e3157b1a0", func := "columbarium/columbariumlaw22.ChainShares", spec := "chainShares", inPlace := ["internal/abi.NoEscape", "internal/bytealg.MakeNoZero"], unfollowed := true, recurses := true, named := ["columbarium/memory.fields", "columbarium/class.sizes", "columbarium/head.nowhere", "columbarium/head.common", "columbarium/head.own"], apart := false, laid := [("columbarium/class.sizes", laid_columbarium_class_sizes), ("columbarium/memory.fields", laid_columbarium_memory_fields), ("columbarium/head.nowhere", laid_columbarium_head_nowhere), ("columbarium/head.common", laid_columbarium_head_common), ("columbarium/head.own", laid_columbarium_head_own)], narrowed := true }
def ChainSharesUptoSaid : Prop := chainSharesUptoRow.holds Tryz.pinned (OpenSpec.upto chainSharesSpec)

/-- 'columbariumlaw22.ChainNames', WHERE WHAT IT READS IS OF BULK AT MOST 1048576: true; the input reads as it did. -/
def chainNamesUptoRow : OpenClaim := { program := "ytellbfamofilaaagreatdoor", sum := "6e17ac322fa8c589e3afdb975d3fc3f27bf4ac4b1d2c407590aa6c6e3157b1a0", func := "columbarium/columbariumlaw22.ChainNames", spec := "chainNames", inPlace := ["internal/abi.NoEscape", "internal/bytealg.MakeNoZero"], unfollowed := true, recurses := true, named := ["columbarium/memory.fields", "columbarium/class.sizes", "columbarium/head.nowhere", "columbarium/head.common", "columbarium/head.own"], apart := false, laid := [("columbarium/class.sizes", laid_columbarium_class_sizes), ("columbarium/memory.fields", laid_columbarium_memory_fields), ("columbarium/head.nowhere", laid_columbarium_head_nowhere), ("columbarium/head.common", laid_columbarium_head_common), ("columbarium/head.own", laid_columbarium_head_own)], narrowed := true }
def ChainNamesUptoSaid : Prop := chainNamesUptoRow.holds Tryz.pinned (OpenSpec.upto chainNamesSpec)

/-- 'columbariumlaw22.ChainBack', WHERE WHAT IT READS IS OF BULK AT MOST 1048576: true; the input reads as it did. -/
def chainBackUptoRow : OpenClaim := { program := "ytellbfamofilaaagreatdoor", sum := "6e17ac322fa8c589e3afdb975d3fc3f27bf4ac4b1d2c407590aa6c6e3157b1a0", func := "columbarium/columbariumlaw22.ChainBack", spec := "chainBack", inPlace := ["internal/abi.NoEscape", "internal/bytealg.MakeNoZero"], unfollowed := true, recurses := true, named := ["columbarium/memory.fields", "columbarium/class.sizes", "columbarium/head.nowhere", "columbarium/head.common", "columbarium/head.own"], apart := false, laid := [("columbarium/class.sizes", laid_columbarium_class_sizes), ("columbarium/memory.fields", laid_columbarium_memory_fields), ("columbarium/head.nowhere", laid_columbarium_head_nowhere), ("columbarium/head.common", laid_columbarium_head_common), ("columbarium/head.own", laid_columbarium_head_own)], narrowed := true }
def ChainBackUptoSaid : Prop := chainBackUptoRow.holds Tryz.pinned (OpenSpec.upto chainBackSpec)

/-- 'columbariumlaw22.ChainPlays', WHERE WHAT IT READS IS OF BULK AT MOST 1048576: true; the input reads as it did. -/
def chainPlaysUptoRow : OpenClaim := { program := "ytellbfamofilaaagreatdoor", sum := "6e17ac322fa8c589e3afdb975d3fc3f27bf4ac4b1d2c407590aa6c6e3157b1a0", func := "columbarium/columbariumlaw22.ChainPlays", spec := "chainPlays", inPlace := ["internal/abi.NoEscape", "internal/bytealg.MakeNoZero"], unfollowed := true, recurses := true, named := ["columbarium/memory.fields", "columbarium/class.sizes", "columbarium/head.nowhere", "columbarium/head.common", "columbarium/head.own"], apart := false, laid := [("columbarium/class.sizes", laid_columbarium_class_sizes), ("columbarium/memory.fields", laid_columbarium_memory_fields), ("columbarium/head.nowhere", laid_columbarium_head_nowhere), ("columbarium/head.common", laid_columbarium_head_common), ("columbarium/head.own", laid_columbarium_head_own)], narrowed := true }
def ChainPlaysUptoSaid : Prop := chainPlaysUptoRow.holds Tryz.pinned (OpenSpec.upto chainPlaysSpec)

end Rows
end Go.Proofs.YtellbfamofilaaaGreatDoor
