/-
  NARROWER THAN 'FOR EVERY INPUT', by the rows' own cells (each row's printed sentence says how): SlabBlocks: laid · SlabOnce: laid · SlabBack: laid · SlabPlays: laid · RingRound: laid · RingLast: laid · IndexBack: laid · IndexFinds: laid · RingPlays: laid · SlabClean: laid · IndexPlays: laid.
  DERIVED. THE GIVEN ROWS OF THIS SEAT. 11 by the template 'for every input the law returns true; each argument reads behind the call as it read before'; 0 by the template 'total and deterministic' (their statements: YtkapkbiccppldaaGreatDoorTotals.lean).
  GIVEN WITH THE SEED: the statements are not yours to turn. If you find one false, say at which input.
  Laid BY PROGRAM, IN A SANDBOX (cutbox-rows.mjs): the forced cells as the released guide's own fill.sh prints them over the translation f49b82542f8bc0fc… (all of the seat's roots in one cut). By AI agents, Wed Nov 11 2026. No macro, syntax, notation, axiom, sorry.
-/
import Derived.Test.YtkapkbiccppldaaGreatDoorChecked
import GoSem.Claim
import GoSem.ClaimJoined
import GoSem.ClaimMapViews
import Derived.JoinedTies
import Derived.KernelRfl
namespace Go.Proofs.YtkapkbiccppldaaGreatDoor
/- THE CELL 'sum', in the pinned program and in every row, IS THE sha256 OF THE DUMP (.gsa) THAT YtkapkbiccppldaaGreatDoorProg.lean LOADS. Nothing in Lean hashes anything: it is a label: what it is worth is what the hold of that sum in a sandbox is worth. -/
noncomputable def Tryz.pinned : Pinned := { name := "ytkapkbiccppldaagreatdoor", sum := "f49b82542f8bc0fc6ff7c528679efbbea8c03b5e487ec52e5231c6d1ff3d4d6a", checked := Tryz.checked }
namespace Rows
def none {H : Type} : Left H := { results := [], args := [] }

/- WHAT THE LISTED PACKAGE-LEVEL VARIABLES READ AS WHEN THE CALL BEGINS. Each datum BY PROGRAM (the guide's laid-datum.mjs) off the statement by which the dump's own 'gosem.cut.vars' lays the variable. In a bare row this is a premise. The card (YtkapkbiccppldaaGreatDoorCards.lean) ties it to the program's text. -/
def laid_columbarium_class_sizes {H : Type} : DataW H := .agg [.lit (.int .i64 0), .lit (.int .i64 32), .lit (.int .i64 48), .lit (.int .i64 64), .lit (.int .i64 96), .lit (.int .i64 128), .lit (.int .i64 192), .lit (.int .i64 256), .lit (.int .i64 384), .lit (.int .i64 512)]
def laid_columbarium_memory_fields {H : Type} : DataW H := .agg [.lit (.int .i64 8), .lit (.int .i64 12), .lit (.int .i64 16), .lit (.int .i64 20), .lit (.int .i64 24), .lit (.int .i64 28), .lit (.int .i64 32), .lit (.int .i64 36), .lit (.int .i64 40), .lit (.int .i64 44), .lit (.int .i64 48), .lit (.int .i64 52), .lit (.int .i64 56), .lit (.int .i64 60), .lit (.int .i64 64), .lit (.int .i64 68), .lit (.int .i64 72), .lit (.int .i64 80), .lit (.int .i64 84), .lit (.int .i64 88), .lit (.int .i64 92)]
def laid_columbarium_head_nowhere {H : Type} : DataW H := .agg [.lit (.int .i64 0), .lit (.int .i64 0)]
def laid_columbarium_head_common {H : Type} : DataW H := .agg [.agg [.lit (.int .i64 0), .lit (.int .i64 1)], .agg [.lit (.int .i64 1), .lit (.int .i64 1)], .agg [.lit (.int .i64 2), .lit (.int .i64 1)], .agg [.lit (.int .i64 3), .lit (.int .i64 1)], .agg [.lit (.int .i64 4), .lit (.int .i64 4)]]
def laid_columbarium_head_own {H : Type} : DataW H := .agg [.agg [.lit (.int .i64 8), .lit (.int .i64 4)], .agg [.lit (.int .i64 12), .lit (.int .i64 4)], .agg [.lit (.int .i64 16), .lit (.int .i64 8)], .agg [.lit (.int .i64 24), .lit (.int .i64 2)], .agg [.lit (.int .i64 26), .lit (.int .i64 2)], .agg [.lit (.int .i64 28), .lit (.int .i64 4)]]

/-- 'columbariumlaw15.SlabBlocks': WHATEVER THE INPUT: true; the input reads as it did. -/
def slabBlocksSpec : ChangeSpec := { name := "slabBlocks", fn := fun _ => fun
  | [d1, d2] => { results := [.lit (.bool true)], args := [d1, d2] }
  | _ => none }
def slabBlocksRow : OpenClaim := { program := "ytkapkbiccppldaagreatdoor", sum := "f49b82542f8bc0fc6ff7c528679efbbea8c03b5e487ec52e5231c6d1ff3d4d6a", func := "columbarium/columbariumlaw15.SlabBlocks", spec := "slabBlocks", unfollowed := true, recurses := true, named := ["columbarium/memory.fields", "columbarium/class.sizes", "columbarium/head.nowhere", "columbarium/head.common", "columbarium/head.own"], apart := false, laid := [("columbarium/class.sizes", laid_columbarium_class_sizes), ("columbarium/memory.fields", laid_columbarium_memory_fields), ("columbarium/head.nowhere", laid_columbarium_head_nowhere), ("columbarium/head.common", laid_columbarium_head_common), ("columbarium/head.own", laid_columbarium_head_own)] }
def SlabBlocksSaid : Prop := slabBlocksRow.holds Tryz.pinned (OpenSpec.ofChange slabBlocksSpec)

/-- ITS FALSE NEIGHBOUR: 'it returns false'. Refute it at one input. -/
def slabBlocksWrong : ChangeSpec := { name := "slabBlocks", fn := fun _ => fun
  | [d1, d2] => { results := [.lit (.bool false)], args := [d1, d2] }
  | _ => none }
def SlabBlocksWrongFalsely : Prop := slabBlocksRow.holds Tryz.pinned (OpenSpec.ofChange slabBlocksWrong)

/-- 'columbariumlaw15.SlabOnce': WHATEVER THE INPUT: true; the input reads as it did. -/
def slabOnceSpec : ChangeSpec := { name := "slabOnce", fn := fun _ => fun
  | [d] => { results := [.lit (.bool true)], args := [d] }
  | _ => none }
def slabOnceRow : OpenClaim := { program := "ytkapkbiccppldaagreatdoor", sum := "f49b82542f8bc0fc6ff7c528679efbbea8c03b5e487ec52e5231c6d1ff3d4d6a", func := "columbarium/columbariumlaw15.SlabOnce", spec := "slabOnce", unfollowed := true, recurses := true, named := ["columbarium/memory.fields", "columbarium/class.sizes", "columbarium/head.nowhere", "columbarium/head.common", "columbarium/head.own"], apart := false, laid := [("columbarium/class.sizes", laid_columbarium_class_sizes), ("columbarium/memory.fields", laid_columbarium_memory_fields), ("columbarium/head.nowhere", laid_columbarium_head_nowhere), ("columbarium/head.common", laid_columbarium_head_common), ("columbarium/head.own", laid_columbarium_head_own)] }
def SlabOnceSaid : Prop := slabOnceRow.holds Tryz.pinned (OpenSpec.ofChange slabOnceSpec)

/-- ITS FALSE NEIGHBOUR: 'it returns false'. Refute it at one input. -/
def slabOnceWrong : ChangeSpec := { name := "slabOnce", fn := fun _ => fun
  | [d] => { results := [.lit (.bool false)], args := [d] }
  | _ => none }
def SlabOnceWrongFalsely : Prop := slabOnceRow.holds Tryz.pinned (OpenSpec.ofChange slabOnceWrong)

/-- 'columbariumlaw15.SlabBack': WHATEVER THE INPUT: true; the input reads as it did. -/
def slabBackSpec : ChangeSpec := { name := "slabBack", fn := fun _ => fun
  | [d1, d2] => { results := [.lit (.bool true)], args := [d1, d2] }
  | _ => none }
def slabBackRow : OpenClaim := { program := "ytkapkbiccppldaagreatdoor", sum := "f49b82542f8bc0fc6ff7c528679efbbea8c03b5e487ec52e5231c6d1ff3d4d6a", func := "columbarium/columbariumlaw15.SlabBack", spec := "slabBack", unfollowed := true, recurses := true, named := ["columbarium/memory.fields", "columbarium/class.sizes", "columbarium/head.nowhere", "columbarium/head.common", "columbarium/head.own"], apart := false, laid := [("columbarium/class.sizes", laid_columbarium_class_sizes), ("columbarium/memory.fields", laid_columbarium_memory_fields), ("columbarium/head.nowhere", laid_columbarium_head_nowhere), ("columbarium/head.common", laid_columbarium_head_common), ("columbarium/head.own", laid_columbarium_head_own)] }
def SlabBackSaid : Prop := slabBackRow.holds Tryz.pinned (OpenSpec.ofChange slabBackSpec)

/-- ITS FALSE NEIGHBOUR: 'it returns false'. Refute it at one input. -/
def slabBackWrong : ChangeSpec := { name := "slabBack", fn := fun _ => fun
  | [d1, d2] => { results := [.lit (.bool false)], args := [d1, d2] }
  | _ => none }
def SlabBackWrongFalsely : Prop := slabBackRow.holds Tryz.pinned (OpenSpec.ofChange slabBackWrong)

/-- 'columbariumlaw15.SlabPlays': WHATEVER THE INPUT: true; the input reads as it did. -/
def slabPlaysSpec : ChangeSpec := { name := "slabPlays", fn := fun _ => fun
  | [d1, d2] => { results := [.lit (.bool true)], args := [d1, d2] }
  | _ => none }
def slabPlaysRow : OpenClaim := { program := "ytkapkbiccppldaagreatdoor", sum := "f49b82542f8bc0fc6ff7c528679efbbea8c03b5e487ec52e5231c6d1ff3d4d6a", func := "columbarium/columbariumlaw15.SlabPlays", spec := "slabPlays", unfollowed := true, recurses := true, named := ["columbarium/memory.fields", "columbarium/class.sizes", "columbarium/head.nowhere", "columbarium/head.common", "columbarium/head.own"], apart := false, laid := [("columbarium/class.sizes", laid_columbarium_class_sizes), ("columbarium/memory.fields", laid_columbarium_memory_fields), ("columbarium/head.nowhere", laid_columbarium_head_nowhere), ("columbarium/head.common", laid_columbarium_head_common), ("columbarium/head.own", laid_columbarium_head_own)] }
def SlabPlaysSaid : Prop := slabPlaysRow.holds Tryz.pinned (OpenSpec.ofChange slabPlaysSpec)

/-- ITS FALSE NEIGHBOUR: 'it returns false'. Refute it at one input. -/
def slabPlaysWrong : ChangeSpec := { name := "slabPlays", fn := fun _ => fun
  | [d1, d2] => { results := [.lit (.bool false)], args := [d1, d2] }
  | _ => none }
def SlabPlaysWrongFalsely : Prop := slabPlaysRow.holds Tryz.pinned (OpenSpec.ofChange slabPlaysWrong)

/-- 'columbariumlaw17.RingRound': WHATEVER THE INPUT: true; the input reads as it did. -/
def ringRoundSpec : ChangeSpec := { name := "ringRound", fn := fun _ => fun
  | [d1, d2] => { results := [.lit (.bool true)], args := [d1, d2] }
  | _ => none }
def ringRoundRow : OpenClaim := { program := "ytkapkbiccppldaagreatdoor", sum := "f49b82542f8bc0fc6ff7c528679efbbea8c03b5e487ec52e5231c6d1ff3d4d6a", func := "columbarium/columbariumlaw17.RingRound", spec := "ringRound", unfollowed := true, recurses := true, named := ["columbarium/memory.fields", "columbarium/class.sizes", "columbarium/head.nowhere", "columbarium/head.common", "columbarium/head.own"], apart := false, laid := [("columbarium/class.sizes", laid_columbarium_class_sizes), ("columbarium/memory.fields", laid_columbarium_memory_fields), ("columbarium/head.nowhere", laid_columbarium_head_nowhere), ("columbarium/head.common", laid_columbarium_head_common), ("columbarium/head.own", laid_columbarium_head_own)] }
def RingRoundSaid : Prop := ringRoundRow.holds Tryz.pinned (OpenSpec.ofChange ringRoundSpec)

/-- ITS FALSE NEIGHBOUR: 'it returns false'. Refute it at one input. -/
def ringRoundWrong : ChangeSpec := { name := "ringRound", fn := fun _ => fun
  | [d1, d2] => { results := [.lit (.bool false)], args := [d1, d2] }
  | _ => none }
def RingRoundWrongFalsely : Prop := ringRoundRow.holds Tryz.pinned (OpenSpec.ofChange ringRoundWrong)

/-- 'columbariumlaw17.RingLast': WHATEVER THE INPUT: true; the input reads as it did. -/
def ringLastSpec : ChangeSpec := { name := "ringLast", fn := fun _ => fun
  | [d] => { results := [.lit (.bool true)], args := [d] }
  | _ => none }
def ringLastRow : OpenClaim := { program := "ytkapkbiccppldaagreatdoor", sum := "f49b82542f8bc0fc6ff7c528679efbbea8c03b5e487ec52e5231c6d1ff3d4d6a", func := "columbarium/columbariumlaw17.RingLast", spec := "ringLast", unfollowed := true, recurses := true, named := ["columbarium/memory.fields", "columbarium/class.sizes", "columbarium/head.nowhere", "columbarium/head.common", "columbarium/head.own"], apart := false, laid := [("columbarium/class.sizes", laid_columbarium_class_sizes), ("columbarium/memory.fields", laid_columbarium_memory_fields), ("columbarium/head.nowhere", laid_columbarium_head_nowhere), ("columbarium/head.common", laid_columbarium_head_common), ("columbarium/head.own", laid_columbarium_head_own)] }
def RingLastSaid : Prop := ringLastRow.holds Tryz.pinned (OpenSpec.ofChange ringLastSpec)

/-- ITS FALSE NEIGHBOUR: 'it returns false'. Refute it at one input. -/
def ringLastWrong : ChangeSpec := { name := "ringLast", fn := fun _ => fun
  | [d] => { results := [.lit (.bool false)], args := [d] }
  | _ => none }
def RingLastWrongFalsely : Prop := ringLastRow.holds Tryz.pinned (OpenSpec.ofChange ringLastWrong)

/-- 'columbariumlaw20.IndexBack': WHATEVER THE INPUT: true; the input reads as it did. -/
def indexBackSpec : ChangeSpec := { name := "indexBack", fn := fun _ => fun
  | [d1, d2] => { results := [.lit (.bool true)], args := [d1, d2] }
  | _ => none }
def indexBackRow : OpenClaim := { program := "ytkapkbiccppldaagreatdoor", sum := "f49b82542f8bc0fc6ff7c528679efbbea8c03b5e487ec52e5231c6d1ff3d4d6a", func := "columbarium/columbariumlaw20.IndexBack", spec := "indexBack", unfollowed := true, recurses := true, named := ["columbarium/memory.fields", "columbarium/class.sizes", "columbarium/head.nowhere", "columbarium/head.common", "columbarium/head.own"], apart := false, laid := [("columbarium/class.sizes", laid_columbarium_class_sizes), ("columbarium/memory.fields", laid_columbarium_memory_fields), ("columbarium/head.nowhere", laid_columbarium_head_nowhere), ("columbarium/head.common", laid_columbarium_head_common), ("columbarium/head.own", laid_columbarium_head_own)] }
def IndexBackSaid : Prop := indexBackRow.holds Tryz.pinned (OpenSpec.ofChange indexBackSpec)

/-- ITS FALSE NEIGHBOUR: 'it returns false'. Refute it at one input. -/
def indexBackWrong : ChangeSpec := { name := "indexBack", fn := fun _ => fun
  | [d1, d2] => { results := [.lit (.bool false)], args := [d1, d2] }
  | _ => none }
def IndexBackWrongFalsely : Prop := indexBackRow.holds Tryz.pinned (OpenSpec.ofChange indexBackWrong)

/-- 'columbariumlaw20.IndexFinds': WHATEVER THE INPUT: true; the input reads as it did. -/
def indexFindsSpec : ChangeSpec := { name := "indexFinds", fn := fun _ => fun
  | [d] => { results := [.lit (.bool true)], args := [d] }
  | _ => none }
def indexFindsRow : OpenClaim := { program := "ytkapkbiccppldaagreatdoor", sum := "f49b82542f8bc0fc6ff7c528679efbbea8c03b5e487ec52e5231c6d1ff3d4d6a", func := "columbarium/columbariumlaw20.IndexFinds", spec := "indexFinds", unfollowed := true, recurses := true, named := ["columbarium/memory.fields", "columbarium/class.sizes", "columbarium/head.nowhere", "columbarium/head.common", "columbarium/head.own"], apart := false, laid := [("columbarium/class.sizes", laid_columbarium_class_sizes), ("columbarium/memory.fields", laid_columbarium_memory_fields), ("columbarium/head.nowhere", laid_columbarium_head_nowhere), ("columbarium/head.common", laid_columbarium_head_common), ("columbarium/head.own", laid_columbarium_head_own)] }
def IndexFindsSaid : Prop := indexFindsRow.holds Tryz.pinned (OpenSpec.ofChange indexFindsSpec)

/-- ITS FALSE NEIGHBOUR: 'it returns false'. Refute it at one input. -/
def indexFindsWrong : ChangeSpec := { name := "indexFinds", fn := fun _ => fun
  | [d] => { results := [.lit (.bool false)], args := [d] }
  | _ => none }
def IndexFindsWrongFalsely : Prop := indexFindsRow.holds Tryz.pinned (OpenSpec.ofChange indexFindsWrong)

/-- 'columbariumlaw17.RingPlays': WHATEVER THE INPUT: true; the input reads as it did. -/
def ringPlaysSpec : ChangeSpec := { name := "ringPlays", fn := fun _ => fun
  | [d] => { results := [.lit (.bool true)], args := [d] }
  | _ => none }
def ringPlaysRow : OpenClaim := { program := "ytkapkbiccppldaagreatdoor", sum := "f49b82542f8bc0fc6ff7c528679efbbea8c03b5e487ec52e5231c6d1ff3d4d6a", func := "columbarium/columbariumlaw17.RingPlays", spec := "ringPlays", unfollowed := true, recurses := true, named := ["columbarium/memory.fields", "columbarium/class.sizes", "columbarium/head.nowhere", "columbarium/head.common", "columbarium/head.own"], apart := false, laid := [("columbarium/class.sizes", laid_columbarium_class_sizes), ("columbarium/memory.fields", laid_columbarium_memory_fields), ("columbarium/head.nowhere", laid_columbarium_head_nowhere), ("columbarium/head.common", laid_columbarium_head_common), ("columbarium/head.own", laid_columbarium_head_own)] }
def RingPlaysSaid : Prop := ringPlaysRow.holds Tryz.pinned (OpenSpec.ofChange ringPlaysSpec)

/-- ITS FALSE NEIGHBOUR: 'it returns false'. Refute it at one input. -/
def ringPlaysWrong : ChangeSpec := { name := "ringPlays", fn := fun _ => fun
  | [d] => { results := [.lit (.bool false)], args := [d] }
  | _ => none }
def RingPlaysWrongFalsely : Prop := ringPlaysRow.holds Tryz.pinned (OpenSpec.ofChange ringPlaysWrong)

/-- 'columbariumlaw15.SlabClean': WHATEVER THE INPUT: true; the input reads as it did. -/
def slabCleanSpec : ChangeSpec := { name := "slabClean", fn := fun _ => fun
  | [d] => { results := [.lit (.bool true)], args := [d] }
  | _ => none }
def slabCleanRow : OpenClaim := { program := "ytkapkbiccppldaagreatdoor", sum := "f49b82542f8bc0fc6ff7c528679efbbea8c03b5e487ec52e5231c6d1ff3d4d6a", func := "columbarium/columbariumlaw15.SlabClean", spec := "slabClean", inPlace := ["internal/bytealg.IndexByte", "internal/bytealg.Index"], unfollowed := true, recurses := true, named := ["columbarium/memory.fields", "columbarium/class.sizes", "columbarium/head.nowhere", "columbarium/head.common", "columbarium/head.own", "internal/bytealg.MaxLen"], apart := false, laid := [("columbarium/class.sizes", laid_columbarium_class_sizes), ("columbarium/memory.fields", laid_columbarium_memory_fields), ("columbarium/head.nowhere", laid_columbarium_head_nowhere), ("columbarium/head.common", laid_columbarium_head_common), ("columbarium/head.own", laid_columbarium_head_own)] }
def SlabCleanSaid : Prop := slabCleanRow.holds Tryz.pinned (OpenSpec.ofChange slabCleanSpec)

/-- ITS FALSE NEIGHBOUR: 'it returns false'. Refute it at one input. -/
def slabCleanWrong : ChangeSpec := { name := "slabClean", fn := fun _ => fun
  | [d] => { results := [.lit (.bool false)], args := [d] }
  | _ => none }
def SlabCleanWrongFalsely : Prop := slabCleanRow.holds Tryz.pinned (OpenSpec.ofChange slabCleanWrong)

/-- 'columbariumlaw20.IndexPlays': WHATEVER THE INPUT: true; the input reads as it did. -/
def indexPlaysSpec : ChangeSpec := { name := "indexPlays", fn := fun _ => fun
  | [d] => { results := [.lit (.bool true)], args := [d] }
  | _ => none }
def indexPlaysRow : OpenClaim := { program := "ytkapkbiccppldaagreatdoor", sum := "f49b82542f8bc0fc6ff7c528679efbbea8c03b5e487ec52e5231c6d1ff3d4d6a", func := "columbarium/columbariumlaw20.IndexPlays", spec := "indexPlays", unfollowed := true, recurses := true, named := ["columbarium/memory.fields", "columbarium/class.sizes", "columbarium/head.nowhere", "columbarium/head.common", "columbarium/head.own"], apart := false, laid := [("columbarium/class.sizes", laid_columbarium_class_sizes), ("columbarium/memory.fields", laid_columbarium_memory_fields), ("columbarium/head.nowhere", laid_columbarium_head_nowhere), ("columbarium/head.common", laid_columbarium_head_common), ("columbarium/head.own", laid_columbarium_head_own)] }
def IndexPlaysSaid : Prop := indexPlaysRow.holds Tryz.pinned (OpenSpec.ofChange indexPlaysSpec)

/-- ITS FALSE NEIGHBOUR: 'it returns false'. Refute it at one input. -/
def indexPlaysWrong : ChangeSpec := { name := "indexPlays", fn := fun _ => fun
  | [d] => { results := [.lit (.bool false)], args := [d] }
  | _ => none }
def IndexPlaysWrongFalsely : Prop := indexPlaysRow.holds Tryz.pinned (OpenSpec.ofChange indexPlaysWrong)

/- THE SECOND FORM. 'bulk': how many values and letters a reading holds, each counted each time it is reached (what is shared counts as often as it is met; a slice's spare places count too). A statement '..UptoSaid' is the law's where the arguments, and the package variables that the reading takes, are together of bulk at most 1048576: NARROWER than '..Said'. Prove '..Said' where nothing that the law and all that it calls make is longer than what came in: it says more and counts as full. Else prove '..UptoSaid'. A law counts once. -/
mutual
def uptoBulk {H : Type} : DataW H → Nat
  | .lit (.string bytes) => bytes.length + 1
  | .lit _ => 1
  | .nil => 1
  | .ptr d => uptoBulk d + 1
  | .slice elems spare => uptoBulkAll elems + uptoBulkAll spare + 1
  | .agg parts => uptoBulkAll parts + 1
  | .iface _ d => uptoBulk d + 1
  | .map entries => uptoBulkEntries entries + 1
  | .held _ => 1
def uptoBulkAll {H : Type} : List (DataW H) → Nat
  | [] => 0
  | d :: r => uptoBulk d + uptoBulkAll r
def uptoBulkEntries {H : Type} : List (Lit × DataW H) → Nat
  | [] => 0
  | x :: r => uptoBulkEntry x + uptoBulkEntries r
def uptoBulkEntry {H : Type} : Lit × DataW H → Nat
  | (.string bytes, d) => bytes.length + uptoBulk d + 1
  | (_, d) => uptoBulk d + 1
 end
def uptoSmall : (H : Type) → List (DataW H) → Bool := fun _ ds => decide (uptoBulkAll ds ≤ 1048576)
def OpenSpec.upto (s : _root_.Go.ChangeSpec) : _root_.Go.OpenSpec := { _root_.Go.OpenSpec.ofChange s with cond := some uptoSmall }

/-- 'columbariumlaw15.SlabBlocks', WHERE WHAT IT READS IS OF BULK AT MOST 1048576: true; the input reads as it did. -/
def slabBlocksUptoRow : OpenClaim := { program := "ytkapkbiccppldaagreatdoor", sum := "f49b82542f8bc0fc6ff7c528679efbbea8c03b5e487ec52e5231c6d1ff3d4d6a", func := "columbarium/columbariumlaw15.SlabBlocks", spec := "slabBlocks", unfollowed := true, recurses := true, named := ["columbarium/memory.fields", "columbarium/class.sizes", "columbarium/head.nowhere", "columbarium/head.common", "columbarium/head.own"], apart := false, laid := [("columbarium/class.sizes", laid_columbarium_class_sizes), ("columbarium/memory.fields", laid_columbarium_memory_fields), ("columbarium/head.nowhere", laid_columbarium_head_nowhere), ("columbarium/head.common", laid_columbarium_head_common), ("columbarium/head.own", laid_columbarium_head_own)], narrowed := true }
def SlabBlocksUptoSaid : Prop := slabBlocksUptoRow.holds Tryz.pinned (OpenSpec.upto slabBlocksSpec)

/-- 'columbariumlaw15.SlabOnce', WHERE WHAT IT READS IS OF BULK AT MOST 1048576: true; the input reads as it did. -/
def slabOnceUptoRow : OpenClaim := { program := "ytkapkbiccppldaagreatdoor", sum := "f49b82542f8bc0fc6ff7c528679efbbea8c03b5e487ec52e5231c6d1ff3d4d6a", func := "columbarium/columbariumlaw15.SlabOnce", spec := "slabOnce", unfollowed := true, recurses := true, named := ["columbarium/memory.fields", "columbarium/class.sizes", "columbarium/head.nowhere", "columbarium/head.common", "columbarium/head.own"], apart := false, laid := [("columbarium/class.sizes", laid_columbarium_class_sizes), ("columbarium/memory.fields", laid_columbarium_memory_fields), ("columbarium/head.nowhere", laid_columbarium_head_nowhere), ("columbarium/head.common", laid_columbarium_head_common), ("columbarium/head.own", laid_columbarium_head_own)], narrowed := true }
def SlabOnceUptoSaid : Prop := slabOnceUptoRow.holds Tryz.pinned (OpenSpec.upto slabOnceSpec)

/-- 'columbariumlaw15.SlabBack', WHERE WHAT IT READS IS OF BULK AT MOST 1048576: true; the input reads as it did. -/
def slabBackUptoRow : OpenClaim := { program := "ytkapkbiccppldaagreatdoor", sum := "f49b82542f8bc0fc6ff7c528679efbbea8c03b5e487ec52e5231c6d1ff3d4d6a", func := "columbarium/columbariumlaw15.SlabBack", spec := "slabBack", unfollowed := true, recurses := true, named := ["columbarium/memory.fields", "columbarium/class.sizes", "columbarium/head.nowhere", "columbarium/head.common", "columbarium/head.own"], apart := false, laid := [("columbarium/class.sizes", laid_columbarium_class_sizes), ("columbarium/memory.fields", laid_columbarium_memory_fields), ("columbarium/head.nowhere", laid_columbarium_head_nowhere), ("columbarium/head.common", laid_columbarium_head_common), ("columbarium/head.own", laid_columbarium_head_own)], narrowed := true }
def SlabBackUptoSaid : Prop := slabBackUptoRow.holds Tryz.pinned (OpenSpec.upto slabBackSpec)

/-- 'columbariumlaw15.SlabPlays', WHERE WHAT IT READS IS OF BULK AT MOST 1048576: true; the input reads as it did. -/
def slabPlaysUptoRow : OpenClaim := { program := "ytkapkbiccppldaagreatdoor", sum := "f49b82542f8bc0fc6ff7c528679efbbea8c03b5e487ec52e5231c6d1ff3d4d6a", func := "columbarium/columbariumlaw15.SlabPlays", spec := "slabPlays", unfollowed := true, recurses := true, named := ["columbarium/memory.fields", "columbarium/class.sizes", "columbarium/head.nowhere", "columbarium/head.common", "columbarium/head.own"], apart := false, laid := [("columbarium/class.sizes", laid_columbarium_class_sizes), ("columbarium/memory.fields", laid_columbarium_memory_fields), ("columbarium/head.nowhere", laid_columbarium_head_nowhere), ("columbarium/head.common", laid_columbarium_head_common), ("columbarium/head.own", laid_columbarium_head_own)], narrowed := true }
def SlabPlaysUptoSaid : Prop := slabPlaysUptoRow.holds Tryz.pinned (OpenSpec.upto slabPlaysSpec)

/-- 'columbariumlaw17.RingRound', WHERE WHAT IT READS IS OF BULK AT MOST 1048576: true; the input reads as it did. -/
def ringRoundUptoRow : OpenClaim := { program := "ytkapkbiccppldaagreatdoor", sum := "f49b82542f8bc0fc6ff7c528679efbbea8c03b5e487ec52e5231c6d1ff3d4d6a", func := "columbarium/columbariumlaw17.RingRound", spec := "ringRound", unfollowed := true, recurses := true, named := ["columbarium/memory.fields", "columbarium/class.sizes", "columbarium/head.nowhere", "columbarium/head.common", "columbarium/head.own"], apart := false, laid := [("columbarium/class.sizes", laid_columbarium_class_sizes), ("columbarium/memory.fields", laid_columbarium_memory_fields), ("columbarium/head.nowhere", laid_columbarium_head_nowhere), ("columbarium/head.common", laid_columbarium_head_common), ("columbarium/head.own", laid_columbarium_head_own)], narrowed := true }
def RingRoundUptoSaid : Prop := ringRoundUptoRow.holds Tryz.pinned (OpenSpec.upto ringRoundSpec)

/-- 'columbariumlaw17.RingLast', WHERE WHAT IT READS IS OF BULK AT MOST 1048576: true; the input reads as it did. -/
def ringLastUptoRow : OpenClaim := { program := "ytkapkbiccppldaagreatdoor", sum := "f49b82542f8bc0fc6ff7c528679efbbea8c03b5e487ec52e5231c6d1ff3d4d6a", func := "columbarium/columbariumlaw17.RingLast", spec := "ringLast", unfollowed := true, recurses := true, named := ["columbarium/memory.fields", "columbarium/class.sizes", "columbarium/head.nowhere", "columbarium/head.common", "columbarium/head.own"], apart := false, laid := [("columbarium/class.sizes", laid_columbarium_class_sizes), ("columbarium/memory.fields", laid_columbarium_memory_fields), ("columbarium/head.nowhere", laid_columbarium_head_nowhere), ("columbarium/head.common", laid_columbarium_head_common), ("columbarium/head.own", laid_columbarium_head_own)], narrowed := true }
def RingLastUptoSaid : Prop := ringLastUptoRow.holds Tryz.pinned (OpenSpec.upto ringLastSpec)

/-- 'columbariumlaw20.IndexBack', WHERE WHAT IT READS IS OF BULK AT MOST 1048576: true; the input reads as it did. -/
def indexBackUptoRow : OpenClaim := { program := "ytkapkbiccppldaagreatdoor", sum := "f49b82542f8bc0fc6ff7c528679efbbea8c03b5e487ec52e5231c6d1ff3d4d6a", func := "columbarium/columbariumlaw20.IndexBack", spec := "indexBack", unfollowed := true, recurses := true, named := ["columbarium/memory.fields", "columbarium/class.sizes", "columbarium/head.nowhere", "columbarium/head.common", "columbarium/head.own"], apart := false, laid := [("columbarium/class.sizes", laid_columbarium_class_sizes), ("columbarium/memory.fields", laid_columbarium_memory_fields), ("columbarium/head.nowhere", laid_columbarium_head_nowhere), ("columbarium/head.common", laid_columbarium_head_common), ("columbarium/head.own", laid_columbarium_head_own)], narrowed := true }
def IndexBackUptoSaid : Prop := indexBackUptoRow.holds Tryz.pinned (OpenSpec.upto indexBackSpec)

/-- 'columbariumlaw20.IndexFinds', WHERE WHAT IT READS IS OF BULK AT MOST 1048576: true; the input reads as it did. -/
def indexFindsUptoRow : OpenClaim := { program := "ytkapkbiccppldaagreatdoor", sum := "f49b82542f8bc0fc6ff7c528679efbbea8c03b5e487ec52e5231c6d1ff3d4d6a", func := "columbarium/columbariumlaw20.IndexFinds", spec := "indexFinds", unfollowed := true, recurses := true, named := ["columbarium/memory.fields", "columbarium/class.sizes", "columbarium/head.nowhere", "columbarium/head.common", "columbarium/head.own"], apart := false, laid := [("columbarium/class.sizes", laid_columbarium_class_sizes), ("columbarium/memory.fields", laid_columbarium_memory_fields), ("columbarium/head.nowhere", laid_columbarium_head_nowhere), ("columbarium/head.common", laid_columbarium_head_common), ("columbarium/head.own", laid_columbarium_head_own)], narrowed := true }
def IndexFindsUptoSaid : Prop := indexFindsUptoRow.holds Tryz.pinned (OpenSpec.upto indexFindsSpec)

/-- 'columbariumlaw17.RingPlays', WHERE WHAT IT READS IS OF BULK AT MOST 1048576: true; the input reads as it did. -/
def ringPlaysUptoRow : OpenClaim := { program := "ytkapkbiccppldaagreatdoor", sum := "f49b82542f8bc0fc6ff7c528679efbbea8c03b5e487ec52e5231c6d1ff3d4d6a", func := "columbarium/columbariumlaw17.RingPlays", spec := "ringPlays", unfollowed := true, recurses := true, named := ["columbarium/memory.fields", "columbarium/class.sizes", "columbarium/head.nowhere", "columbarium/head.common", "columbarium/head.own"], apart := false, laid := [("columbarium/class.sizes", laid_columbarium_class_sizes), ("columbarium/memory.fields", laid_columbarium_memory_fields), ("columbarium/head.nowhere", laid_columbarium_head_nowhere), ("columbarium/head.common", laid_columbarium_head_common), ("columbarium/head.own", laid_columbarium_head_own)], narrowed := true }
def RingPlaysUptoSaid : Prop := ringPlaysUptoRow.holds Tryz.pinned (OpenSpec.upto ringPlaysSpec)

/-- 'columbariumlaw15.SlabClean', WHERE WHAT IT READS IS OF BULK AT MOST 1048576: true; the input reads as it did. -/
def slabCleanUptoRow : OpenClaim := { program := "ytkapkbiccppldaagreatdoor", sum := "f49b82542f8bc0fc6ff7c528679efbbea8c03b5e487ec52e5231c6d1ff3d4d6a", func := "columbarium/columbariumlaw15.SlabClean", spec := "slabClean", inPlace := ["internal/bytealg.IndexByte", "internal/bytealg.Index"], unfollowed := true, recurses := true, named := ["columbarium/memory.fields", "columbarium/class.sizes", "columbarium/head.nowhere", "columbarium/head.common", "columbarium/head.own", "internal/bytealg.MaxLen"], apart := false, laid := [("columbarium/class.sizes", laid_columbarium_class_sizes), ("columbarium/memory.fields", laid_columbarium_memory_fields), ("columbarium/head.nowhere", laid_columbarium_head_nowhere), ("columbarium/head.common", laid_columbarium_head_common), ("columbarium/head.own", laid_columbarium_head_own)], narrowed := true }
def SlabCleanUptoSaid : Prop := slabCleanUptoRow.holds Tryz.pinned (OpenSpec.upto slabCleanSpec)

/-- 'columbariumlaw20.IndexPlays', WHERE WHAT IT READS IS OF BULK AT MOST 1048576: true; the input reads as it did. -/
def indexPlaysUptoRow : OpenClaim := { program := "ytkapkbiccppldaagreatdoor", sum := "f49b82542f8bc0fc6ff7c528679efbbea8c03b5e487ec52e5231c6d1ff3d4d6a", func := "columbarium/columbariumlaw20.IndexPlays", spec := "indexPlays", unfollowed := true, recurses := true, named := ["columbarium/memory.fields", "columbarium/class.sizes", "columbarium/head.nowhere", "columbarium/head.common", "columbarium/head.own"], apart := false, laid := [("columbarium/class.sizes", laid_columbarium_class_sizes), ("columbarium/memory.fields", laid_columbarium_memory_fields), ("columbarium/head.nowhere", laid_columbarium_head_nowhere), ("columbarium/head.common", laid_columbarium_head_common), ("columbarium/head.own", laid_columbarium_head_own)], narrowed := true }
def IndexPlaysUptoSaid : Prop := indexPlaysUptoRow.holds Tryz.pinned (OpenSpec.upto indexPlaysSpec)

end Rows
end Go.Proofs.YtkapkbiccppldaaGreatDoor
