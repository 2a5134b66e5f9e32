/-
  No cell of these rows narrows 'for every input' (looked for: loops, veiled, ifaces, maps, wideKeys, modest, calm, conditions, laid).
  DERIVED. THE GIVEN ROWS OF THIS SEAT. 4 by the template 'for every input the law returns true; each argument reads behind the call as it read before'; 0 by the template 'total and deterministic' (their statements: YtfkoddhbkfiflaaTotals.lean).
  GIVEN WITH THE SEED: the statements are not yours to turn. If you find one false, say at which input.
  Laid BY PROGRAM, IN A SANDBOX (cutbox-rows.mjs): the forced cells as the released guide's own fill.sh prints them over the translation cab38e69ccd5f8f2… (all of the seat's roots in one cut). By AI agents, Wed Nov 11 2026. No macro, syntax, notation, axiom, sorry.
-/
import Derived.Test.YtfkoddhbkfiflaaChecked
import GoSem.Claim
import GoSem.ClaimJoined
import GoSem.ClaimMapViews
import Derived.JoinedTies
import Derived.KernelRfl
namespace Go.Proofs.Ytfkoddhbkfiflaa
/- THE CELL 'sum', in the pinned program and in every row, IS THE sha256 OF THE DUMP (.gsa) THAT YtfkoddhbkfiflaaProg.lean LOADS. Nothing in Lean hashes anything: it is a label: what it is worth is what the hold of that sum in a sandbox is worth. -/
noncomputable def Try.pinned : Pinned := { name := "ytfkoddhbkfiflaa", sum := "cab38e69ccd5f8f2612668266f337922f0bc85a9916740ad0487bf9645322b91", checked := Try.checked }
namespace Rows
def none {H : Type} : Left H := { results := [], args := [] }

/-- 'laws.FnExactConstants': WHATEVER THE INPUT: true; the input reads as it did. -/
def fnExactConstantsSpec : ChangeSpec := { name := "fnExactConstants", fn := fun _ => fun
  | [] => { results := [.lit (.bool true)], args := [] }
  | _ => none }
def fnExactConstantsRow : OpenClaim := { program := "ytfkoddhbkfiflaa", sum := "cab38e69ccd5f8f2612668266f337922f0bc85a9916740ad0487bf9645322b91", func := "loop.example/capstan/laws.FnExactConstants", spec := "fnExactConstants", apart := false }
def FnExactConstantsSaid : Prop := fnExactConstantsRow.holds Try.pinned (OpenSpec.ofChange fnExactConstantsSpec)

/-- ITS FALSE NEIGHBOUR: 'it returns false'. Refute it at one input. -/
def fnExactConstantsWrong : ChangeSpec := { name := "fnExactConstants", fn := fun _ => fun
  | [] => { results := [.lit (.bool false)], args := [] }
  | _ => none }
def FnExactConstantsWrongFalsely : Prop := fnExactConstantsRow.holds Try.pinned (OpenSpec.ofChange fnExactConstantsWrong)

/-- 'laws.FnExactTableStart': WHATEVER THE INPUT: true; the input reads as it did. -/
def fnExactTableStartSpec : ChangeSpec := { name := "fnExactTableStart", fn := fun _ => fun
  | [] => { results := [.lit (.bool true)], args := [] }
  | _ => none }
def fnExactTableStartRow : OpenClaim := { program := "ytfkoddhbkfiflaa", sum := "cab38e69ccd5f8f2612668266f337922f0bc85a9916740ad0487bf9645322b91", func := "loop.example/capstan/laws.FnExactTableStart", spec := "fnExactTableStart", apart := false }
def FnExactTableStartSaid : Prop := fnExactTableStartRow.holds Try.pinned (OpenSpec.ofChange fnExactTableStartSpec)

/-- ITS FALSE NEIGHBOUR: 'it returns false'. Refute it at one input. -/
def fnExactTableStartWrong : ChangeSpec := { name := "fnExactTableStart", fn := fun _ => fun
  | [] => { results := [.lit (.bool false)], args := [] }
  | _ => none }
def FnExactTableStartWrongFalsely : Prop := fnExactTableStartRow.holds Try.pinned (OpenSpec.ofChange fnExactTableStartWrong)

/-- 'laws.FnExactTableKeeper': WHATEVER THE INPUT: true; the input reads as it did. -/
def fnExactTableKeeperSpec : ChangeSpec := { name := "fnExactTableKeeper", fn := fun _ => fun
  | [d1, d2] => { results := [.lit (.bool true)], args := [d1, d2] }
  | _ => none }
def fnExactTableKeeperRow : OpenClaim := { program := "ytfkoddhbkfiflaa", sum := "cab38e69ccd5f8f2612668266f337922f0bc85a9916740ad0487bf9645322b91", func := "loop.example/capstan/laws.FnExactTableKeeper", spec := "fnExactTableKeeper", unfollowed := true, recurses := true, apart := false }
def FnExactTableKeeperSaid : Prop := fnExactTableKeeperRow.holds Try.pinned (OpenSpec.ofChange fnExactTableKeeperSpec)

/-- ITS FALSE NEIGHBOUR: 'it returns false'. Refute it at one input. -/
def fnExactTableKeeperWrong : ChangeSpec := { name := "fnExactTableKeeper", fn := fun _ => fun
  | [d1, d2] => { results := [.lit (.bool false)], args := [d1, d2] }
  | _ => none }
def FnExactTableKeeperWrongFalsely : Prop := fnExactTableKeeperRow.holds Try.pinned (OpenSpec.ofChange fnExactTableKeeperWrong)

/-- 'laws.FnExactTableJoin': WHATEVER THE INPUT: true; the input reads as it did. -/
def fnExactTableJoinSpec : ChangeSpec := { name := "fnExactTableJoin", fn := fun _ => fun
  | [d1, d2] => { results := [.lit (.bool true)], args := [d1, d2] }
  | _ => none }
def fnExactTableJoinRow : OpenClaim := { program := "ytfkoddhbkfiflaa", sum := "cab38e69ccd5f8f2612668266f337922f0bc85a9916740ad0487bf9645322b91", func := "loop.example/capstan/laws.FnExactTableJoin", spec := "fnExactTableJoin", unfollowed := true, recurses := true, apart := false }
def FnExactTableJoinSaid : Prop := fnExactTableJoinRow.holds Try.pinned (OpenSpec.ofChange fnExactTableJoinSpec)

/-- ITS FALSE NEIGHBOUR: 'it returns false'. Refute it at one input. -/
def fnExactTableJoinWrong : ChangeSpec := { name := "fnExactTableJoin", fn := fun _ => fun
  | [d1, d2] => { results := [.lit (.bool false)], args := [d1, d2] }
  | _ => none }
def FnExactTableJoinWrongFalsely : Prop := fnExactTableJoinRow.holds Try.pinned (OpenSpec.ofChange fnExactTableJoinWrong)

/- THE SECOND FORM. 'bulk': how many values and letters a reading holds, each counted each time it is reached (what is shared counts as often as it is met; a slice's spare places count too). A statement '..UptoSaid' is the law's where the arguments, and the package variables that the reading takes, are together of bulk at most 1048576: NARROWER than '..Said'. Prove '..Said' where nothing that the law and all that it calls make is longer than what came in: it says more and counts as full. Else prove '..UptoSaid'. A law counts once. -/
mutual
def uptoBulk {H : Type} : DataW H → Nat
  | .lit (.string bytes) => bytes.length + 1
  | .lit _ => 1
  | .nil => 1
  | .ptr d => uptoBulk d + 1
  | .slice elems spare => uptoBulkAll elems + uptoBulkAll spare + 1
  | .agg parts => uptoBulkAll parts + 1
  | .iface _ d => uptoBulk d + 1
  | .map entries => uptoBulkEntries entries + 1
  | .held _ => 1
def uptoBulkAll {H : Type} : List (DataW H) → Nat
  | [] => 0
  | d :: r => uptoBulk d + uptoBulkAll r
def uptoBulkEntries {H : Type} : List (Lit × DataW H) → Nat
  | [] => 0
  | x :: r => uptoBulkEntry x + uptoBulkEntries r
def uptoBulkEntry {H : Type} : Lit × DataW H → Nat
  | (.string bytes, d) => bytes.length + uptoBulk d + 1
  | (_, d) => uptoBulk d + 1
 end
def uptoSmall : (H : Type) → List (DataW H) → Bool := fun _ ds => decide (uptoBulkAll ds ≤ 1048576)
def OpenSpec.upto (s : _root_.Go.ChangeSpec) : _root_.Go.OpenSpec := { _root_.Go.OpenSpec.ofChange s with cond := some uptoSmall }

/-- 'laws.FnExactConstants', WHERE WHAT IT READS IS OF BULK AT MOST 1048576: true; the input reads as it did. -/
def fnExactConstantsUptoRow : OpenClaim := { program := "ytfkoddhbkfiflaa", sum := "cab38e69ccd5f8f2612668266f337922f0bc85a9916740ad0487bf9645322b91", func := "loop.example/capstan/laws.FnExactConstants", spec := "fnExactConstants", apart := false, narrowed := true }
def FnExactConstantsUptoSaid : Prop := fnExactConstantsUptoRow.holds Try.pinned (OpenSpec.upto fnExactConstantsSpec)

/-- 'laws.FnExactTableStart', WHERE WHAT IT READS IS OF BULK AT MOST 1048576: true; the input reads as it did. -/
def fnExactTableStartUptoRow : OpenClaim := { program := "ytfkoddhbkfiflaa", sum := "cab38e69ccd5f8f2612668266f337922f0bc85a9916740ad0487bf9645322b91", func := "loop.example/capstan/laws.FnExactTableStart", spec := "fnExactTableStart", apart := false, narrowed := true }
def FnExactTableStartUptoSaid : Prop := fnExactTableStartUptoRow.holds Try.pinned (OpenSpec.upto fnExactTableStartSpec)

/-- 'laws.FnExactTableKeeper', WHERE WHAT IT READS IS OF BULK AT MOST 1048576: true; the input reads as it did. -/
def fnExactTableKeeperUptoRow : OpenClaim := { program := "ytfkoddhbkfiflaa", sum := "cab38e69ccd5f8f2612668266f337922f0bc85a9916740ad0487bf9645322b91", func := "loop.example/capstan/laws.FnExactTableKeeper", spec := "fnExactTableKeeper", unfollowed := true, recurses := true, apart := false, narrowed := true }
def FnExactTableKeeperUptoSaid : Prop := fnExactTableKeeperUptoRow.holds Try.pinned (OpenSpec.upto fnExactTableKeeperSpec)

/-- 'laws.FnExactTableJoin', WHERE WHAT IT READS IS OF BULK AT MOST 1048576: true; the input reads as it did. -/
def fnExactTableJoinUptoRow : OpenClaim := { program := "ytfkoddhbkfiflaa", sum := "cab38e69ccd5f8f2612668266f337922f0bc85a9916740ad0487bf9645322b91", func := "loop.example/capstan/laws.FnExactTableJoin", spec := "fnExactTableJoin", unfollowed := true, recurses := true, apart := false, narrowed := true }
def FnExactTableJoinUptoSaid : Prop := fnExactTableJoinUptoRow.holds Try.pinned (OpenSpec.upto fnExactTableJoinSpec)

end Rows
end Go.Proofs.Ytfkoddhbkfiflaa
