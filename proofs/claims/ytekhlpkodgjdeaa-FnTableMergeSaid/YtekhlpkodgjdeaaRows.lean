/-
  No cell of these rows narrows 'for every input' (looked for: loops, veiled, ifaces, maps, wideKeys, modest, calm, conditions, laid).
  DERIVED. THE GIVEN ROWS OF THIS SEAT. 14 by the template 'for every input the law returns true; each argument reads behind the call as it read before'; 0 by the template 'total and deterministic' (their statements: YtekhlpkodgjdeaaTotals.lean).
  GIVEN WITH THE SEED: the statements are not yours to turn. If you find one false, say at which input.
  Laid BY PROGRAM, IN A SANDBOX (cutbox-rows.mjs): the forced cells as the released guide's own fill.sh prints them over the translation e7e61ab153157582… (all of the seat's roots in one cut). By AI agents, Wed Nov 11 2026. No macro, syntax, notation, axiom, sorry.
-/
import Derived.Test.YtekhlpkodgjdeaaChecked
import GoSem.Claim
import GoSem.ClaimJoined
import GoSem.ClaimMapViews
import Derived.JoinedTies
import Derived.KernelRfl
namespace Go.Proofs.Ytekhlpkodgjdeaa
/- THE CELL 'sum', in the pinned program and in every row, IS THE sha256 OF THE DUMP (.gsa) THAT YtekhlpkodgjdeaaProg.lean LOADS. Nothing in Lean hashes anything: it is a label: what it is worth is what the hold of that sum in a sandbox is worth. -/
noncomputable def Try.pinned : Pinned := { name := "ytekhlpkodgjdeaa", sum := "e7e61ab1531575825410609130f8a64b0f8a148f36dc4b08e455d9681358c05d", checked := Try.checked }
namespace Rows
def none {H : Type} : Left H := { results := [], args := [] }

/-- 'laws.FnExactTableOk': WHATEVER THE INPUT: true; the input reads as it did. -/
def fnExactTableOkSpec : ChangeSpec := { name := "fnExactTableOk", fn := fun _ => fun
  | [d] => { results := [.lit (.bool true)], args := [d] }
  | _ => none }
def fnExactTableOkRow : OpenClaim := { program := "ytekhlpkodgjdeaa", sum := "e7e61ab1531575825410609130f8a64b0f8a148f36dc4b08e455d9681358c05d", func := "loop.example/capstan/laws.FnExactTableOk", spec := "fnExactTableOk", apart := false }
def FnExactTableOkSaid : Prop := fnExactTableOkRow.holds Try.pinned (OpenSpec.ofChange fnExactTableOkSpec)

/-- ITS FALSE NEIGHBOUR: 'it returns false'. Refute it at one input. -/
def fnExactTableOkWrong : ChangeSpec := { name := "fnExactTableOk", fn := fun _ => fun
  | [d] => { results := [.lit (.bool false)], args := [d] }
  | _ => none }
def FnExactTableOkWrongFalsely : Prop := fnExactTableOkRow.holds Try.pinned (OpenSpec.ofChange fnExactTableOkWrong)

/-- 'laws.FnExactTableKeeper': WHATEVER THE INPUT: true; the input reads as it did. -/
def fnExactTableKeeperSpec : ChangeSpec := { name := "fnExactTableKeeper", fn := fun _ => fun
  | [d1, d2] => { results := [.lit (.bool true)], args := [d1, d2] }
  | _ => none }
def fnExactTableKeeperRow : OpenClaim := { program := "ytekhlpkodgjdeaa", sum := "e7e61ab1531575825410609130f8a64b0f8a148f36dc4b08e455d9681358c05d", func := "loop.example/capstan/laws.FnExactTableKeeper", spec := "fnExactTableKeeper", unfollowed := true, recurses := true, apart := false }
def FnExactTableKeeperSaid : Prop := fnExactTableKeeperRow.holds Try.pinned (OpenSpec.ofChange fnExactTableKeeperSpec)

/-- ITS FALSE NEIGHBOUR: 'it returns false'. Refute it at one input. -/
def fnExactTableKeeperWrong : ChangeSpec := { name := "fnExactTableKeeper", fn := fun _ => fun
  | [d1, d2] => { results := [.lit (.bool false)], args := [d1, d2] }
  | _ => none }
def FnExactTableKeeperWrongFalsely : Prop := fnExactTableKeeperRow.holds Try.pinned (OpenSpec.ofChange fnExactTableKeeperWrong)

/-- 'laws.FnExactTableJoin': WHATEVER THE INPUT: true; the input reads as it did. -/
def fnExactTableJoinSpec : ChangeSpec := { name := "fnExactTableJoin", fn := fun _ => fun
  | [d1, d2] => { results := [.lit (.bool true)], args := [d1, d2] }
  | _ => none }
def fnExactTableJoinRow : OpenClaim := { program := "ytekhlpkodgjdeaa", sum := "e7e61ab1531575825410609130f8a64b0f8a148f36dc4b08e455d9681358c05d", func := "loop.example/capstan/laws.FnExactTableJoin", spec := "fnExactTableJoin", unfollowed := true, recurses := true, apart := false }
def FnExactTableJoinSaid : Prop := fnExactTableJoinRow.holds Try.pinned (OpenSpec.ofChange fnExactTableJoinSpec)

/-- ITS FALSE NEIGHBOUR: 'it returns false'. Refute it at one input. -/
def fnExactTableJoinWrong : ChangeSpec := { name := "fnExactTableJoin", fn := fun _ => fun
  | [d1, d2] => { results := [.lit (.bool false)], args := [d1, d2] }
  | _ => none }
def FnExactTableJoinWrongFalsely : Prop := fnExactTableJoinRow.holds Try.pinned (OpenSpec.ofChange fnExactTableJoinWrong)

/-- 'laws.FnExactTableLeave': WHATEVER THE INPUT: true; the input reads as it did. -/
def fnExactTableLeaveSpec : ChangeSpec := { name := "fnExactTableLeave", fn := fun _ => fun
  | [d1, d2] => { results := [.lit (.bool true)], args := [d1, d2] }
  | _ => none }
def fnExactTableLeaveRow : OpenClaim := { program := "ytekhlpkodgjdeaa", sum := "e7e61ab1531575825410609130f8a64b0f8a148f36dc4b08e455d9681358c05d", func := "loop.example/capstan/laws.FnExactTableLeave", spec := "fnExactTableLeave", unfollowed := true, recurses := true, apart := false }
def FnExactTableLeaveSaid : Prop := fnExactTableLeaveRow.holds Try.pinned (OpenSpec.ofChange fnExactTableLeaveSpec)

/-- ITS FALSE NEIGHBOUR: 'it returns false'. Refute it at one input. -/
def fnExactTableLeaveWrong : ChangeSpec := { name := "fnExactTableLeave", fn := fun _ => fun
  | [d1, d2] => { results := [.lit (.bool false)], args := [d1, d2] }
  | _ => none }
def FnExactTableLeaveWrongFalsely : Prop := fnExactTableLeaveRow.holds Try.pinned (OpenSpec.ofChange fnExactTableLeaveWrong)

/-- 'laws.FnTableCover': WHATEVER THE INPUT: true; the input reads as it did. -/
def fnTableCoverSpec : ChangeSpec := { name := "fnTableCover", fn := fun _ => fun
  | [d] => { results := [.lit (.bool true)], args := [d] }
  | _ => none }
def fnTableCoverRow : OpenClaim := { program := "ytekhlpkodgjdeaa", sum := "e7e61ab1531575825410609130f8a64b0f8a148f36dc4b08e455d9681358c05d", func := "loop.example/capstan/laws.FnTableCover", spec := "fnTableCover", unfollowed := true, recurses := true, apart := false }
def FnTableCoverSaid : Prop := fnTableCoverRow.holds Try.pinned (OpenSpec.ofChange fnTableCoverSpec)

/-- ITS FALSE NEIGHBOUR: 'it returns false'. Refute it at one input. -/
def fnTableCoverWrong : ChangeSpec := { name := "fnTableCover", fn := fun _ => fun
  | [d] => { results := [.lit (.bool false)], args := [d] }
  | _ => none }
def FnTableCoverWrongFalsely : Prop := fnTableCoverRow.holds Try.pinned (OpenSpec.ofChange fnTableCoverWrong)

/-- 'laws.FnExactTableMove': WHATEVER THE INPUT: true; the input reads as it did. -/
def fnExactTableMoveSpec : ChangeSpec := { name := "fnExactTableMove", fn := fun _ => fun
  | [d1, d2, d3] => { results := [.lit (.bool true)], args := [d1, d2, d3] }
  | _ => none }
def fnExactTableMoveRow : OpenClaim := { program := "ytekhlpkodgjdeaa", sum := "e7e61ab1531575825410609130f8a64b0f8a148f36dc4b08e455d9681358c05d", func := "loop.example/capstan/laws.FnExactTableMove", spec := "fnExactTableMove", unfollowed := true, recurses := true, apart := false }
def FnExactTableMoveSaid : Prop := fnExactTableMoveRow.holds Try.pinned (OpenSpec.ofChange fnExactTableMoveSpec)

/-- ITS FALSE NEIGHBOUR: 'it returns false'. Refute it at one input. -/
def fnExactTableMoveWrong : ChangeSpec := { name := "fnExactTableMove", fn := fun _ => fun
  | [d1, d2, d3] => { results := [.lit (.bool false)], args := [d1, d2, d3] }
  | _ => none }
def FnExactTableMoveWrongFalsely : Prop := fnExactTableMoveRow.holds Try.pinned (OpenSpec.ofChange fnExactTableMoveWrong)

/-- 'laws.FnExactTableMerge': WHATEVER THE INPUT: true; the input reads as it did. -/
def fnExactTableMergeSpec : ChangeSpec := { name := "fnExactTableMerge", fn := fun _ => fun
  | [d1, d2] => { results := [.lit (.bool true)], args := [d1, d2] }
  | _ => none }
def fnExactTableMergeRow : OpenClaim := { program := "ytekhlpkodgjdeaa", sum := "e7e61ab1531575825410609130f8a64b0f8a148f36dc4b08e455d9681358c05d", func := "loop.example/capstan/laws.FnExactTableMerge", spec := "fnExactTableMerge", unfollowed := true, recurses := true, apart := false }
def FnExactTableMergeSaid : Prop := fnExactTableMergeRow.holds Try.pinned (OpenSpec.ofChange fnExactTableMergeSpec)

/-- ITS FALSE NEIGHBOUR: 'it returns false'. Refute it at one input. -/
def fnExactTableMergeWrong : ChangeSpec := { name := "fnExactTableMerge", fn := fun _ => fun
  | [d1, d2] => { results := [.lit (.bool false)], args := [d1, d2] }
  | _ => none }
def FnExactTableMergeWrongFalsely : Prop := fnExactTableMergeRow.holds Try.pinned (OpenSpec.ofChange fnExactTableMergeWrong)

/-- 'laws.FnTableBack': WHATEVER THE INPUT: true; the input reads as it did. -/
def fnTableBackSpec : ChangeSpec := { name := "fnTableBack", fn := fun _ => fun
  | [d] => { results := [.lit (.bool true)], args := [d] }
  | _ => none }
def fnTableBackRow : OpenClaim := { program := "ytekhlpkodgjdeaa", sum := "e7e61ab1531575825410609130f8a64b0f8a148f36dc4b08e455d9681358c05d", func := "loop.example/capstan/laws.FnTableBack", spec := "fnTableBack", unfollowed := true, recurses := true, apart := false }
def FnTableBackSaid : Prop := fnTableBackRow.holds Try.pinned (OpenSpec.ofChange fnTableBackSpec)

/-- ITS FALSE NEIGHBOUR: 'it returns false'. Refute it at one input. -/
def fnTableBackWrong : ChangeSpec := { name := "fnTableBack", fn := fun _ => fun
  | [d] => { results := [.lit (.bool false)], args := [d] }
  | _ => none }
def FnTableBackWrongFalsely : Prop := fnTableBackRow.holds Try.pinned (OpenSpec.ofChange fnTableBackWrong)

/-- 'laws.FnTableMove': WHATEVER THE INPUT: true; the input reads as it did. -/
def fnTableMoveSpec : ChangeSpec := { name := "fnTableMove", fn := fun _ => fun
  | [d] => { results := [.lit (.bool true)], args := [d] }
  | _ => none }
def fnTableMoveRow : OpenClaim := { program := "ytekhlpkodgjdeaa", sum := "e7e61ab1531575825410609130f8a64b0f8a148f36dc4b08e455d9681358c05d", func := "loop.example/capstan/laws.FnTableMove", spec := "fnTableMove", unfollowed := true, recurses := true, apart := false }
def FnTableMoveSaid : Prop := fnTableMoveRow.holds Try.pinned (OpenSpec.ofChange fnTableMoveSpec)

/-- ITS FALSE NEIGHBOUR: 'it returns false'. Refute it at one input. -/
def fnTableMoveWrong : ChangeSpec := { name := "fnTableMove", fn := fun _ => fun
  | [d] => { results := [.lit (.bool false)], args := [d] }
  | _ => none }
def FnTableMoveWrongFalsely : Prop := fnTableMoveRow.holds Try.pinned (OpenSpec.ofChange fnTableMoveWrong)

/-- 'laws.FnTableLeave': WHATEVER THE INPUT: true; the input reads as it did. -/
def fnTableLeaveSpec : ChangeSpec := { name := "fnTableLeave", fn := fun _ => fun
  | [d] => { results := [.lit (.bool true)], args := [d] }
  | _ => none }
def fnTableLeaveRow : OpenClaim := { program := "ytekhlpkodgjdeaa", sum := "e7e61ab1531575825410609130f8a64b0f8a148f36dc4b08e455d9681358c05d", func := "loop.example/capstan/laws.FnTableLeave", spec := "fnTableLeave", unfollowed := true, recurses := true, apart := false }
def FnTableLeaveSaid : Prop := fnTableLeaveRow.holds Try.pinned (OpenSpec.ofChange fnTableLeaveSpec)

/-- ITS FALSE NEIGHBOUR: 'it returns false'. Refute it at one input. -/
def fnTableLeaveWrong : ChangeSpec := { name := "fnTableLeave", fn := fun _ => fun
  | [d] => { results := [.lit (.bool false)], args := [d] }
  | _ => none }
def FnTableLeaveWrongFalsely : Prop := fnTableLeaveRow.holds Try.pinned (OpenSpec.ofChange fnTableLeaveWrong)

/-- 'laws.FnTableJoin': WHATEVER THE INPUT: true; the input reads as it did. -/
def fnTableJoinSpec : ChangeSpec := { name := "fnTableJoin", fn := fun _ => fun
  | [d] => { results := [.lit (.bool true)], args := [d] }
  | _ => none }
def fnTableJoinRow : OpenClaim := { program := "ytekhlpkodgjdeaa", sum := "e7e61ab1531575825410609130f8a64b0f8a148f36dc4b08e455d9681358c05d", func := "loop.example/capstan/laws.FnTableJoin", spec := "fnTableJoin", unfollowed := true, recurses := true, apart := false }
def FnTableJoinSaid : Prop := fnTableJoinRow.holds Try.pinned (OpenSpec.ofChange fnTableJoinSpec)

/-- ITS FALSE NEIGHBOUR: 'it returns false'. Refute it at one input. -/
def fnTableJoinWrong : ChangeSpec := { name := "fnTableJoin", fn := fun _ => fun
  | [d] => { results := [.lit (.bool false)], args := [d] }
  | _ => none }
def FnTableJoinWrongFalsely : Prop := fnTableJoinRow.holds Try.pinned (OpenSpec.ofChange fnTableJoinWrong)

/-- 'laws.FnTableMerge': WHATEVER THE INPUT: true; the input reads as it did. -/
def fnTableMergeSpec : ChangeSpec := { name := "fnTableMerge", fn := fun _ => fun
  | [d] => { results := [.lit (.bool true)], args := [d] }
  | _ => none }
def fnTableMergeRow : OpenClaim := { program := "ytekhlpkodgjdeaa", sum := "e7e61ab1531575825410609130f8a64b0f8a148f36dc4b08e455d9681358c05d", func := "loop.example/capstan/laws.FnTableMerge", spec := "fnTableMerge", unfollowed := true, recurses := true, apart := false }
def FnTableMergeSaid : Prop := fnTableMergeRow.holds Try.pinned (OpenSpec.ofChange fnTableMergeSpec)

/-- ITS FALSE NEIGHBOUR: 'it returns false'. Refute it at one input. -/
def fnTableMergeWrong : ChangeSpec := { name := "fnTableMerge", fn := fun _ => fun
  | [d] => { results := [.lit (.bool false)], args := [d] }
  | _ => none }
def FnTableMergeWrongFalsely : Prop := fnTableMergeRow.holds Try.pinned (OpenSpec.ofChange fnTableMergeWrong)

/-- 'laws.FnExactTableSplit': WHATEVER THE INPUT: true; the input reads as it did. -/
def fnExactTableSplitSpec : ChangeSpec := { name := "fnExactTableSplit", fn := fun _ => fun
  | [d1, d2] => { results := [.lit (.bool true)], args := [d1, d2] }
  | _ => none }
def fnExactTableSplitRow : OpenClaim := { program := "ytekhlpkodgjdeaa", sum := "e7e61ab1531575825410609130f8a64b0f8a148f36dc4b08e455d9681358c05d", func := "loop.example/capstan/laws.FnExactTableSplit", spec := "fnExactTableSplit", inPlace := ["slices.overlaps[loop.example/capstan/impl.TableRange]"], unfollowed := true, recurses := true, apart := false }
def FnExactTableSplitSaid : Prop := fnExactTableSplitRow.holds Try.pinned (OpenSpec.ofChange fnExactTableSplitSpec)

/-- ITS FALSE NEIGHBOUR: 'it returns false'. Refute it at one input. -/
def fnExactTableSplitWrong : ChangeSpec := { name := "fnExactTableSplit", fn := fun _ => fun
  | [d1, d2] => { results := [.lit (.bool false)], args := [d1, d2] }
  | _ => none }
def FnExactTableSplitWrongFalsely : Prop := fnExactTableSplitRow.holds Try.pinned (OpenSpec.ofChange fnExactTableSplitWrong)

/-- 'laws.FnTableSplit': WHATEVER THE INPUT: true; the input reads as it did. -/
def fnTableSplitSpec : ChangeSpec := { name := "fnTableSplit", fn := fun _ => fun
  | [d] => { results := [.lit (.bool true)], args := [d] }
  | _ => none }
def fnTableSplitRow : OpenClaim := { program := "ytekhlpkodgjdeaa", sum := "e7e61ab1531575825410609130f8a64b0f8a148f36dc4b08e455d9681358c05d", func := "loop.example/capstan/laws.FnTableSplit", spec := "fnTableSplit", inPlace := ["slices.overlaps[loop.example/capstan/impl.TableRange]"], unfollowed := true, recurses := true, apart := false }
def FnTableSplitSaid : Prop := fnTableSplitRow.holds Try.pinned (OpenSpec.ofChange fnTableSplitSpec)

/-- ITS FALSE NEIGHBOUR: 'it returns false'. Refute it at one input. -/
def fnTableSplitWrong : ChangeSpec := { name := "fnTableSplit", fn := fun _ => fun
  | [d] => { results := [.lit (.bool false)], args := [d] }
  | _ => none }
def FnTableSplitWrongFalsely : Prop := fnTableSplitRow.holds Try.pinned (OpenSpec.ofChange fnTableSplitWrong)

/- THE SECOND FORM. 'bulk': how many values and letters a reading holds, each counted each time it is reached (what is shared counts as often as it is met; a slice's spare places count too). A statement '..UptoSaid' is the law's where the arguments, and the package variables that the reading takes, are together of bulk at most 1048576: NARROWER than '..Said'. Prove '..Said' where nothing that the law and all that it calls make is longer than what came in: it says more and counts as full. Else prove '..UptoSaid'. A law counts once. -/
mutual
def uptoBulk {H : Type} : DataW H → Nat
  | .lit (.string bytes) => bytes.length + 1
  | .lit _ => 1
  | .nil => 1
  | .ptr d => uptoBulk d + 1
  | .slice elems spare => uptoBulkAll elems + uptoBulkAll spare + 1
  | .agg parts => uptoBulkAll parts + 1
  | .iface _ d => uptoBulk d + 1
  | .map entries => uptoBulkEntries entries + 1
  | .held _ => 1
def uptoBulkAll {H : Type} : List (DataW H) → Nat
  | [] => 0
  | d :: r => uptoBulk d + uptoBulkAll r
def uptoBulkEntries {H : Type} : List (Lit × DataW H) → Nat
  | [] => 0
  | x :: r => uptoBulkEntry x + uptoBulkEntries r
def uptoBulkEntry {H : Type} : Lit × DataW H → Nat
  | (.string bytes, d) => bytes.length + uptoBulk d + 1
  | (_, d) => uptoBulk d + 1
 end
def uptoSmall : (H : Type) → List (DataW H) → Bool := fun _ ds => decide (uptoBulkAll ds ≤ 1048576)
def OpenSpec.upto (s : _root_.Go.ChangeSpec) : _root_.Go.OpenSpec := { _root_.Go.OpenSpec.ofChange s with cond := some uptoSmall }

/-- 'laws.FnExactTableOk', WHERE WHAT IT READS IS OF BULK AT MOST 1048576: true; the input reads as it did. -/
def fnExactTableOkUptoRow : OpenClaim := { program := "ytekhlpkodgjdeaa", sum := "e7e61ab1531575825410609130f8a64b0f8a148f36dc4b08e455d9681358c05d", func := "loop.example/capstan/laws.FnExactTableOk", spec := "fnExactTableOk", apart := false, narrowed := true }
def FnExactTableOkUptoSaid : Prop := fnExactTableOkUptoRow.holds Try.pinned (OpenSpec.upto fnExactTableOkSpec)

/-- 'laws.FnExactTableKeeper', WHERE WHAT IT READS IS OF BULK AT MOST 1048576: true; the input reads as it did. -/
def fnExactTableKeeperUptoRow : OpenClaim := { program := "ytekhlpkodgjdeaa", sum := "e7e61ab1531575825410609130f8a64b0f8a148f36dc4b08e455d9681358c05d", func := "loop.example/capstan/laws.FnExactTableKeeper", spec := "fnExactTableKeeper", unfollowed := true, recurses := true, apart := false, narrowed := true }
def FnExactTableKeeperUptoSaid : Prop := fnExactTableKeeperUptoRow.holds Try.pinned (OpenSpec.upto fnExactTableKeeperSpec)

/-- 'laws.FnExactTableJoin', WHERE WHAT IT READS IS OF BULK AT MOST 1048576: true; the input reads as it did. -/
def fnExactTableJoinUptoRow : OpenClaim := { program := "ytekhlpkodgjdeaa", sum := "e7e61ab1531575825410609130f8a64b0f8a148f36dc4b08e455d9681358c05d", func := "loop.example/capstan/laws.FnExactTableJoin", spec := "fnExactTableJoin", unfollowed := true, recurses := true, apart := false, narrowed := true }
def FnExactTableJoinUptoSaid : Prop := fnExactTableJoinUptoRow.holds Try.pinned (OpenSpec.upto fnExactTableJoinSpec)

/-- 'laws.FnExactTableLeave', WHERE WHAT IT READS IS OF BULK AT MOST 1048576: true; the input reads as it did. -/
def fnExactTableLeaveUptoRow : OpenClaim := { program := "ytekhlpkodgjdeaa", sum := "e7e61ab1531575825410609130f8a64b0f8a148f36dc4b08e455d9681358c05d", func := "loop.example/capstan/laws.FnExactTableLeave", spec := "fnExactTableLeave", unfollowed := true, recurses := true, apart := false, narrowed := true }
def FnExactTableLeaveUptoSaid : Prop := fnExactTableLeaveUptoRow.holds Try.pinned (OpenSpec.upto fnExactTableLeaveSpec)

/-- 'laws.FnTableCover', WHERE WHAT IT READS IS OF BULK AT MOST 1048576: true; the input reads as it did. -/
def fnTableCoverUptoRow : OpenClaim := { program := "ytekhlpkodgjdeaa", sum := "e7e61ab1531575825410609130f8a64b0f8a148f36dc4b08e455d9681358c05d", func := "loop.example/capstan/laws.FnTableCover", spec := "fnTableCover", unfollowed := true, recurses := true, apart := false, narrowed := true }
def FnTableCoverUptoSaid : Prop := fnTableCoverUptoRow.holds Try.pinned (OpenSpec.upto fnTableCoverSpec)

/-- 'laws.FnExactTableMove', WHERE WHAT IT READS IS OF BULK AT MOST 1048576: true; the input reads as it did. -/
def fnExactTableMoveUptoRow : OpenClaim := { program := "ytekhlpkodgjdeaa", sum := "e7e61ab1531575825410609130f8a64b0f8a148f36dc4b08e455d9681358c05d", func := "loop.example/capstan/laws.FnExactTableMove", spec := "fnExactTableMove", unfollowed := true, recurses := true, apart := false, narrowed := true }
def FnExactTableMoveUptoSaid : Prop := fnExactTableMoveUptoRow.holds Try.pinned (OpenSpec.upto fnExactTableMoveSpec)

/-- 'laws.FnExactTableMerge', WHERE WHAT IT READS IS OF BULK AT MOST 1048576: true; the input reads as it did. -/
def fnExactTableMergeUptoRow : OpenClaim := { program := "ytekhlpkodgjdeaa", sum := "e7e61ab1531575825410609130f8a64b0f8a148f36dc4b08e455d9681358c05d", func := "loop.example/capstan/laws.FnExactTableMerge", spec := "fnExactTableMerge", unfollowed := true, recurses := true, apart := false, narrowed := true }
def FnExactTableMergeUptoSaid : Prop := fnExactTableMergeUptoRow.holds Try.pinned (OpenSpec.upto fnExactTableMergeSpec)

/-- 'laws.FnTableBack', WHERE WHAT IT READS IS OF BULK AT MOST 1048576: true; the input reads as it did. -/
def fnTableBackUptoRow : OpenClaim := { program := "ytekhlpkodgjdeaa", sum := "e7e61ab1531575825410609130f8a64b0f8a148f36dc4b08e455d9681358c05d", func := "loop.example/capstan/laws.FnTableBack", spec := "fnTableBack", unfollowed := true, recurses := true, apart := false, narrowed := true }
def FnTableBackUptoSaid : Prop := fnTableBackUptoRow.holds Try.pinned (OpenSpec.upto fnTableBackSpec)

/-- 'laws.FnTableMove', WHERE WHAT IT READS IS OF BULK AT MOST 1048576: true; the input reads as it did. -/
def fnTableMoveUptoRow : OpenClaim := { program := "ytekhlpkodgjdeaa", sum := "e7e61ab1531575825410609130f8a64b0f8a148f36dc4b08e455d9681358c05d", func := "loop.example/capstan/laws.FnTableMove", spec := "fnTableMove", unfollowed := true, recurses := true, apart := false, narrowed := true }
def FnTableMoveUptoSaid : Prop := fnTableMoveUptoRow.holds Try.pinned (OpenSpec.upto fnTableMoveSpec)

/-- 'laws.FnTableLeave', WHERE WHAT IT READS IS OF BULK AT MOST 1048576: true; the input reads as it did. -/
def fnTableLeaveUptoRow : OpenClaim := { program := "ytekhlpkodgjdeaa", sum := "e7e61ab1531575825410609130f8a64b0f8a148f36dc4b08e455d9681358c05d", func := "loop.example/capstan/laws.FnTableLeave", spec := "fnTableLeave", unfollowed := true, recurses := true, apart := false, narrowed := true }
def FnTableLeaveUptoSaid : Prop := fnTableLeaveUptoRow.holds Try.pinned (OpenSpec.upto fnTableLeaveSpec)

/-- 'laws.FnTableJoin', WHERE WHAT IT READS IS OF BULK AT MOST 1048576: true; the input reads as it did. -/
def fnTableJoinUptoRow : OpenClaim := { program := "ytekhlpkodgjdeaa", sum := "e7e61ab1531575825410609130f8a64b0f8a148f36dc4b08e455d9681358c05d", func := "loop.example/capstan/laws.FnTableJoin", spec := "fnTableJoin", unfollowed := true, recurses := true, apart := false, narrowed := true }
def FnTableJoinUptoSaid : Prop := fnTableJoinUptoRow.holds Try.pinned (OpenSpec.upto fnTableJoinSpec)

/-- 'laws.FnTableMerge', WHERE WHAT IT READS IS OF BULK AT MOST 1048576: true; the input reads as it did. -/
def fnTableMergeUptoRow : OpenClaim := { program := "ytekhlpkodgjdeaa", sum := "e7e61ab1531575825410609130f8a64b0f8a148f36dc4b08e455d9681358c05d", func := "loop.example/capstan/laws.FnTableMerge", spec := "fnTableMerge", unfollowed := true, recurses := true, apart := false, narrowed := true }
def FnTableMergeUptoSaid : Prop := fnTableMergeUptoRow.holds Try.pinned (OpenSpec.upto fnTableMergeSpec)

/-- 'laws.FnExactTableSplit', WHERE WHAT IT READS IS OF BULK AT MOST 1048576: true; the input reads as it did. -/
def fnExactTableSplitUptoRow : OpenClaim := { program := "ytekhlpkodgjdeaa", sum := "e7e61ab1531575825410609130f8a64b0f8a148f36dc4b08e455d9681358c05d", func := "loop.example/capstan/laws.FnExactTableSplit", spec := "fnExactTableSplit", inPlace := ["slices.overlaps[loop.example/capstan/impl.TableRange]"], unfollowed := true, recurses := true, apart := false, narrowed := true }
def FnExactTableSplitUptoSaid : Prop := fnExactTableSplitUptoRow.holds Try.pinned (OpenSpec.upto fnExactTableSplitSpec)

/-- 'laws.FnTableSplit', WHERE WHAT IT READS IS OF BULK AT MOST 1048576: true; the input reads as it did. -/
def fnTableSplitUptoRow : OpenClaim := { program := "ytekhlpkodgjdeaa", sum := "e7e61ab1531575825410609130f8a64b0f8a148f36dc4b08e455d9681358c05d", func := "loop.example/capstan/laws.FnTableSplit", spec := "fnTableSplit", inPlace := ["slices.overlaps[loop.example/capstan/impl.TableRange]"], unfollowed := true, recurses := true, apart := false, narrowed := true }
def FnTableSplitUptoSaid : Prop := fnTableSplitUptoRow.holds Try.pinned (OpenSpec.upto fnTableSplitSpec)

end Rows
end Go.Proofs.Ytekhlpkodgjdeaa
