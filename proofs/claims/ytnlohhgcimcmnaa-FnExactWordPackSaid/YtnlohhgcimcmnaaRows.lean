/-
  No cell of these rows narrows 'for every input' (looked for: loops, veiled, ifaces, maps, wideKeys, modest, calm, conditions, laid).
  DERIVED. THE GIVEN ROWS OF THIS SEAT. 5 by the template 'for every input the law returns true; each argument reads behind the call as it read before'; 0 by the template 'total and deterministic' (their statements: YtnlohhgcimcmnaaTotals.lean).
  GIVEN WITH THE SEED: the statements are not yours to turn. If you find one false, say at which input.
  Laid BY PROGRAM, IN A SANDBOX (cutbox-rows.mjs): the forced cells as the released guide's own fill.sh prints them over the translation cb5158239c8ed7e8… (all of the seat's roots in one cut). By AI agents, Wed Nov 11 2026. No macro, syntax, notation, axiom, sorry.
-/
import Derived.Test.YtnlohhgcimcmnaaChecked
import GoSem.Claim
import GoSem.ClaimJoined
import GoSem.ClaimMapViews
import Derived.JoinedTies
import Derived.KernelRfl
namespace Go.Proofs.Ytnlohhgcimcmnaa
/- THE CELL 'sum', in the pinned program and in every row, IS THE sha256 OF THE DUMP (.gsa) THAT YtnlohhgcimcmnaaProg.lean LOADS. Nothing in Lean hashes anything: it is a label: what it is worth is what the hold of that sum in a sandbox is worth. -/
noncomputable def Try.pinned : Pinned := { name := "ytnlohhgcimcmnaa", sum := "cb5158239c8ed7e83006c9d1c2cff950f06ec4bd3a63763b87efb2d765ed1af8", checked := Try.checked }
namespace Rows
def none {H : Type} : Left H := { results := [], args := [] }

/-- 'laws.FnExactRaftOk': WHATEVER THE INPUT: true; the input reads as it did. -/
def fnExactRaftOkSpec : ChangeSpec := { name := "fnExactRaftOk", fn := fun _ => fun
  | [d] => { results := [.lit (.bool true)], args := [d] }
  | _ => none }
def fnExactRaftOkRow : OpenClaim := { program := "ytnlohhgcimcmnaa", sum := "cb5158239c8ed7e83006c9d1c2cff950f06ec4bd3a63763b87efb2d765ed1af8", func := "loop.example/capstan/laws.FnExactRaftOk", spec := "fnExactRaftOk", unfollowed := true, recurses := true, apart := false }
def FnExactRaftOkSaid : Prop := fnExactRaftOkRow.holds Try.pinned (OpenSpec.ofChange fnExactRaftOkSpec)

/-- ITS FALSE NEIGHBOUR: 'it returns false'. Refute it at one input. -/
def fnExactRaftOkWrong : ChangeSpec := { name := "fnExactRaftOk", fn := fun _ => fun
  | [d] => { results := [.lit (.bool false)], args := [d] }
  | _ => none }
def FnExactRaftOkWrongFalsely : Prop := fnExactRaftOkRow.holds Try.pinned (OpenSpec.ofChange fnExactRaftOkWrong)

/-- 'laws.FnExactWordOk': WHATEVER THE INPUT: true; the input reads as it did. -/
def fnExactWordOkSpec : ChangeSpec := { name := "fnExactWordOk", fn := fun _ => fun
  | [d] => { results := [.lit (.bool true)], args := [d] }
  | _ => none }
def fnExactWordOkRow : OpenClaim := { program := "ytnlohhgcimcmnaa", sum := "cb5158239c8ed7e83006c9d1c2cff950f06ec4bd3a63763b87efb2d765ed1af8", func := "loop.example/capstan/laws.FnExactWordOk", spec := "fnExactWordOk", unfollowed := true, recurses := true, apart := false }
def FnExactWordOkSaid : Prop := fnExactWordOkRow.holds Try.pinned (OpenSpec.ofChange fnExactWordOkSpec)

/-- ITS FALSE NEIGHBOUR: 'it returns false'. Refute it at one input. -/
def fnExactWordOkWrong : ChangeSpec := { name := "fnExactWordOk", fn := fun _ => fun
  | [d] => { results := [.lit (.bool false)], args := [d] }
  | _ => none }
def FnExactWordOkWrongFalsely : Prop := fnExactWordOkRow.holds Try.pinned (OpenSpec.ofChange fnExactWordOkWrong)

/-- 'laws.FnExactRaftFall': WHATEVER THE INPUT: true; the input reads as it did. -/
def fnExactRaftFallSpec : ChangeSpec := { name := "fnExactRaftFall", fn := fun _ => fun
  | [d] => { results := [.lit (.bool true)], args := [d] }
  | _ => none }
def fnExactRaftFallRow : OpenClaim := { program := "ytnlohhgcimcmnaa", sum := "cb5158239c8ed7e83006c9d1c2cff950f06ec4bd3a63763b87efb2d765ed1af8", func := "loop.example/capstan/laws.FnExactRaftFall", spec := "fnExactRaftFall", unfollowed := true, recurses := true, apart := false }
def FnExactRaftFallSaid : Prop := fnExactRaftFallRow.holds Try.pinned (OpenSpec.ofChange fnExactRaftFallSpec)

/-- ITS FALSE NEIGHBOUR: 'it returns false'. Refute it at one input. -/
def fnExactRaftFallWrong : ChangeSpec := { name := "fnExactRaftFall", fn := fun _ => fun
  | [d] => { results := [.lit (.bool false)], args := [d] }
  | _ => none }
def FnExactRaftFallWrongFalsely : Prop := fnExactRaftFallRow.holds Try.pinned (OpenSpec.ofChange fnExactRaftFallWrong)

/-- 'laws.FnExactRaftCmds': WHATEVER THE INPUT: true; the input reads as it did. -/
def fnExactRaftCmdsSpec : ChangeSpec := { name := "fnExactRaftCmds", fn := fun _ => fun
  | [d1, d2] => { results := [.lit (.bool true)], args := [d1, d2] }
  | _ => none }
def fnExactRaftCmdsRow : OpenClaim := { program := "ytnlohhgcimcmnaa", sum := "cb5158239c8ed7e83006c9d1c2cff950f06ec4bd3a63763b87efb2d765ed1af8", func := "loop.example/capstan/laws.FnExactRaftCmds", spec := "fnExactRaftCmds", unfollowed := true, recurses := true, apart := false }
def FnExactRaftCmdsSaid : Prop := fnExactRaftCmdsRow.holds Try.pinned (OpenSpec.ofChange fnExactRaftCmdsSpec)

/-- ITS FALSE NEIGHBOUR: 'it returns false'. Refute it at one input. -/
def fnExactRaftCmdsWrong : ChangeSpec := { name := "fnExactRaftCmds", fn := fun _ => fun
  | [d1, d2] => { results := [.lit (.bool false)], args := [d1, d2] }
  | _ => none }
def FnExactRaftCmdsWrongFalsely : Prop := fnExactRaftCmdsRow.holds Try.pinned (OpenSpec.ofChange fnExactRaftCmdsWrong)

/-- 'laws.FnExactWordPack': WHATEVER THE INPUT: true; the input reads as it did. -/
def fnExactWordPackSpec : ChangeSpec := { name := "fnExactWordPack", fn := fun _ => fun
  | [d] => { results := [.lit (.bool true)], args := [d] }
  | _ => none }
def fnExactWordPackRow : OpenClaim := { program := "ytnlohhgcimcmnaa", sum := "cb5158239c8ed7e83006c9d1c2cff950f06ec4bd3a63763b87efb2d765ed1af8", func := "loop.example/capstan/laws.FnExactWordPack", spec := "fnExactWordPack", unfollowed := true, recurses := true, apart := false }
def FnExactWordPackSaid : Prop := fnExactWordPackRow.holds Try.pinned (OpenSpec.ofChange fnExactWordPackSpec)

/-- ITS FALSE NEIGHBOUR: 'it returns false'. Refute it at one input. -/
def fnExactWordPackWrong : ChangeSpec := { name := "fnExactWordPack", fn := fun _ => fun
  | [d] => { results := [.lit (.bool false)], args := [d] }
  | _ => none }
def FnExactWordPackWrongFalsely : Prop := fnExactWordPackRow.holds Try.pinned (OpenSpec.ofChange fnExactWordPackWrong)

/- THE SECOND FORM. 'bulk': how many values and letters a reading holds, each counted each time it is reached (what is shared counts as often as it is met; a slice's spare places count too). A statement '..UptoSaid' is the law's where the arguments, and the package variables that the reading takes, are together of bulk at most 1048576: NARROWER than '..Said'. Prove '..Said' where nothing that the law and all that it calls make is longer than what came in: it says more and counts as full. Else prove '..UptoSaid'. A law counts once. -/
mutual
def uptoBulk {H : Type} : DataW H → Nat
  | .lit (.string bytes) => bytes.length + 1
  | .lit _ => 1
  | .nil => 1
  | .ptr d => uptoBulk d + 1
  | .slice elems spare => uptoBulkAll elems + uptoBulkAll spare + 1
  | .agg parts => uptoBulkAll parts + 1
  | .iface _ d => uptoBulk d + 1
  | .map entries => uptoBulkEntries entries + 1
  | .held _ => 1
def uptoBulkAll {H : Type} : List (DataW H) → Nat
  | [] => 0
  | d :: r => uptoBulk d + uptoBulkAll r
def uptoBulkEntries {H : Type} : List (Lit × DataW H) → Nat
  | [] => 0
  | x :: r => uptoBulkEntry x + uptoBulkEntries r
def uptoBulkEntry {H : Type} : Lit × DataW H → Nat
  | (.string bytes, d) => bytes.length + uptoBulk d + 1
  | (_, d) => uptoBulk d + 1
 end
def uptoSmall : (H : Type) → List (DataW H) → Bool := fun _ ds => decide (uptoBulkAll ds ≤ 1048576)
def OpenSpec.upto (s : _root_.Go.ChangeSpec) : _root_.Go.OpenSpec := { _root_.Go.OpenSpec.ofChange s with cond := some uptoSmall }

/-- 'laws.FnExactRaftOk', WHERE WHAT IT READS IS OF BULK AT MOST 1048576: true; the input reads as it did. -/
def fnExactRaftOkUptoRow : OpenClaim := { program := "ytnlohhgcimcmnaa", sum := "cb5158239c8ed7e83006c9d1c2cff950f06ec4bd3a63763b87efb2d765ed1af8", func := "loop.example/capstan/laws.FnExactRaftOk", spec := "fnExactRaftOk", unfollowed := true, recurses := true, apart := false, narrowed := true }
def FnExactRaftOkUptoSaid : Prop := fnExactRaftOkUptoRow.holds Try.pinned (OpenSpec.upto fnExactRaftOkSpec)

/-- 'laws.FnExactWordOk', WHERE WHAT IT READS IS OF BULK AT MOST 1048576: true; the input reads as it did. -/
def fnExactWordOkUptoRow : OpenClaim := { program := "ytnlohhgcimcmnaa", sum := "cb5158239c8ed7e83006c9d1c2cff950f06ec4bd3a63763b87efb2d765ed1af8", func := "loop.example/capstan/laws.FnExactWordOk", spec := "fnExactWordOk", unfollowed := true, recurses := true, apart := false, narrowed := true }
def FnExactWordOkUptoSaid : Prop := fnExactWordOkUptoRow.holds Try.pinned (OpenSpec.upto fnExactWordOkSpec)

/-- 'laws.FnExactRaftFall', WHERE WHAT IT READS IS OF BULK AT MOST 1048576: true; the input reads as it did. -/
def fnExactRaftFallUptoRow : OpenClaim := { program := "ytnlohhgcimcmnaa", sum := "cb5158239c8ed7e83006c9d1c2cff950f06ec4bd3a63763b87efb2d765ed1af8", func := "loop.example/capstan/laws.FnExactRaftFall", spec := "fnExactRaftFall", unfollowed := true, recurses := true, apart := false, narrowed := true }
def FnExactRaftFallUptoSaid : Prop := fnExactRaftFallUptoRow.holds Try.pinned (OpenSpec.upto fnExactRaftFallSpec)

/-- 'laws.FnExactRaftCmds', WHERE WHAT IT READS IS OF BULK AT MOST 1048576: true; the input reads as it did. -/
def fnExactRaftCmdsUptoRow : OpenClaim := { program := "ytnlohhgcimcmnaa", sum := "cb5158239c8ed7e83006c9d1c2cff950f06ec4bd3a63763b87efb2d765ed1af8", func := "loop.example/capstan/laws.FnExactRaftCmds", spec := "fnExactRaftCmds", unfollowed := true, recurses := true, apart := false, narrowed := true }
def FnExactRaftCmdsUptoSaid : Prop := fnExactRaftCmdsUptoRow.holds Try.pinned (OpenSpec.upto fnExactRaftCmdsSpec)

/-- 'laws.FnExactWordPack', WHERE WHAT IT READS IS OF BULK AT MOST 1048576: true; the input reads as it did. -/
def fnExactWordPackUptoRow : OpenClaim := { program := "ytnlohhgcimcmnaa", sum := "cb5158239c8ed7e83006c9d1c2cff950f06ec4bd3a63763b87efb2d765ed1af8", func := "loop.example/capstan/laws.FnExactWordPack", spec := "fnExactWordPack", unfollowed := true, recurses := true, apart := false, narrowed := true }
def FnExactWordPackUptoSaid : Prop := fnExactWordPackUptoRow.holds Try.pinned (OpenSpec.upto fnExactWordPackSpec)

end Rows
end Go.Proofs.Ytnlohhgcimcmnaa
