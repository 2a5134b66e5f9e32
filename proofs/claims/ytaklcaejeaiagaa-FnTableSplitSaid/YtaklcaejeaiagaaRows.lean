/-
  No cell of these rows narrows 'for every input' (looked for: loops, veiled, ifaces, maps, wideKeys, modest, calm, conditions, laid).
  DERIVED. THE GIVEN ROWS OF THIS SEAT. 5 by the template 'for every input the law returns true; each argument reads behind the call as it read before'; 0 by the template 'total and deterministic' (their statements: YtaklcaejeaiagaaTotals.lean).
  GIVEN WITH THE SEED: the statements are not yours to turn. If you find one false, say at which input.
  Laid BY PROGRAM, IN A SANDBOX (cutbox-rows.mjs): the forced cells as the released guide's own fill.sh prints them over the translation a14165f14dc5183e… (all of the seat's roots in one cut). By AI agents, Wed Nov 11 2026. No macro, syntax, notation, axiom, sorry.
-/
import Derived.Test.YtaklcaejeaiagaaChecked
import GoSem.Claim
import GoSem.ClaimJoined
import GoSem.ClaimMapViews
import Derived.JoinedTies
import Derived.KernelRfl
namespace Go.Proofs.Ytaklcaejeaiagaa
/- THE CELL 'sum', in the pinned program and in every row, IS THE sha256 OF THE DUMP (.gsa) THAT YtaklcaejeaiagaaProg.lean LOADS. Nothing in Lean hashes anything: it is a label: what it is worth is what the hold of that sum in a sandbox is worth. -/
noncomputable def Try.pinned : Pinned := { name := "ytaklcaejeaiagaa", sum := "a14165f14dc5183e8e7507030f617c796c986dc9aa3f634c536edd15fd852b11", checked := Try.checked }
namespace Rows
def none {H : Type} : Left H := { results := [], args := [] }

/-- 'laws.FnExactTableSplit': WHATEVER THE INPUT: true; the input reads as it did. -/
def fnExactTableSplitSpec : ChangeSpec := { name := "fnExactTableSplit", fn := fun _ => fun
  | [d1, d2] => { results := [.lit (.bool true)], args := [d1, d2] }
  | _ => none }
def fnExactTableSplitRow : OpenClaim := { program := "ytaklcaejeaiagaa", sum := "a14165f14dc5183e8e7507030f617c796c986dc9aa3f634c536edd15fd852b11", func := "loop.example/capstan/laws.FnExactTableSplit", spec := "fnExactTableSplit", inPlace := ["slices.overlaps[loop.example/capstan/impl.TableRange]"], unfollowed := true, recurses := true, apart := false }
def FnExactTableSplitSaid : Prop := fnExactTableSplitRow.holds Try.pinned (OpenSpec.ofChange fnExactTableSplitSpec)

/-- ITS FALSE NEIGHBOUR: 'it returns false'. Refute it at one input. -/
def fnExactTableSplitWrong : ChangeSpec := { name := "fnExactTableSplit", fn := fun _ => fun
  | [d1, d2] => { results := [.lit (.bool false)], args := [d1, d2] }
  | _ => none }
def FnExactTableSplitWrongFalsely : Prop := fnExactTableSplitRow.holds Try.pinned (OpenSpec.ofChange fnExactTableSplitWrong)

/-- 'laws.FnTableSplit': WHATEVER THE INPUT: true; the input reads as it did. -/
def fnTableSplitSpec : ChangeSpec := { name := "fnTableSplit", fn := fun _ => fun
  | [d] => { results := [.lit (.bool true)], args := [d] }
  | _ => none }
def fnTableSplitRow : OpenClaim := { program := "ytaklcaejeaiagaa", sum := "a14165f14dc5183e8e7507030f617c796c986dc9aa3f634c536edd15fd852b11", func := "loop.example/capstan/laws.FnTableSplit", spec := "fnTableSplit", inPlace := ["slices.overlaps[loop.example/capstan/impl.TableRange]"], unfollowed := true, recurses := true, apart := false }
def FnTableSplitSaid : Prop := fnTableSplitRow.holds Try.pinned (OpenSpec.ofChange fnTableSplitSpec)

/-- ITS FALSE NEIGHBOUR: 'it returns false'. Refute it at one input. -/
def fnTableSplitWrong : ChangeSpec := { name := "fnTableSplit", fn := fun _ => fun
  | [d] => { results := [.lit (.bool false)], args := [d] }
  | _ => none }
def FnTableSplitWrongFalsely : Prop := fnTableSplitRow.holds Try.pinned (OpenSpec.ofChange fnTableSplitWrong)

/-- 'laws.FnExactTxnAll': WHATEVER THE INPUT: true; the input reads as it did. -/
def fnExactTxnAllSpec : ChangeSpec := { name := "fnExactTxnAll", fn := fun _ => fun
  | [d] => { results := [.lit (.bool true)], args := [d] }
  | _ => none }
def fnExactTxnAllRow : OpenClaim := { program := "ytaklcaejeaiagaa", sum := "a14165f14dc5183e8e7507030f617c796c986dc9aa3f634c536edd15fd852b11", func := "loop.example/capstan/laws.FnExactTxnAll", spec := "fnExactTxnAll", unfollowed := true, recurses := true, apart := false }
def FnExactTxnAllSaid : Prop := fnExactTxnAllRow.holds Try.pinned (OpenSpec.ofChange fnExactTxnAllSpec)

/-- ITS FALSE NEIGHBOUR: 'it returns false'. Refute it at one input. -/
def fnExactTxnAllWrong : ChangeSpec := { name := "fnExactTxnAll", fn := fun _ => fun
  | [d] => { results := [.lit (.bool false)], args := [d] }
  | _ => none }
def FnExactTxnAllWrongFalsely : Prop := fnExactTxnAllRow.holds Try.pinned (OpenSpec.ofChange fnExactTxnAllWrong)

/-- 'laws.FnFoldPut': WHATEVER THE INPUT: true; the input reads as it did. -/
def fnFoldPutSpec : ChangeSpec := { name := "fnFoldPut", fn := fun _ => fun
  | [d] => { results := [.lit (.bool true)], args := [d] }
  | _ => none }
def fnFoldPutRow : OpenClaim := { program := "ytaklcaejeaiagaa", sum := "a14165f14dc5183e8e7507030f617c796c986dc9aa3f634c536edd15fd852b11", func := "loop.example/capstan/laws.FnFoldPut", spec := "fnFoldPut", unfollowed := true, recurses := true, apart := false }
def FnFoldPutSaid : Prop := fnFoldPutRow.holds Try.pinned (OpenSpec.ofChange fnFoldPutSpec)

/-- ITS FALSE NEIGHBOUR: 'it returns false'. Refute it at one input. -/
def fnFoldPutWrong : ChangeSpec := { name := "fnFoldPut", fn := fun _ => fun
  | [d] => { results := [.lit (.bool false)], args := [d] }
  | _ => none }
def FnFoldPutWrongFalsely : Prop := fnFoldPutRow.holds Try.pinned (OpenSpec.ofChange fnFoldPutWrong)

/-- 'laws.FnExactFoldPut': WHATEVER THE INPUT: true; the input reads as it did. -/
def fnExactFoldPutSpec : ChangeSpec := { name := "fnExactFoldPut", fn := fun _ => fun
  | [d1, d2] => { results := [.lit (.bool true)], args := [d1, d2] }
  | _ => none }
def fnExactFoldPutRow : OpenClaim := { program := "ytaklcaejeaiagaa", sum := "a14165f14dc5183e8e7507030f617c796c986dc9aa3f634c536edd15fd852b11", func := "loop.example/capstan/laws.FnExactFoldPut", spec := "fnExactFoldPut", unfollowed := true, recurses := true, apart := false }
def FnExactFoldPutSaid : Prop := fnExactFoldPutRow.holds Try.pinned (OpenSpec.ofChange fnExactFoldPutSpec)

/-- ITS FALSE NEIGHBOUR: 'it returns false'. Refute it at one input. -/
def fnExactFoldPutWrong : ChangeSpec := { name := "fnExactFoldPut", fn := fun _ => fun
  | [d1, d2] => { results := [.lit (.bool false)], args := [d1, d2] }
  | _ => none }
def FnExactFoldPutWrongFalsely : Prop := fnExactFoldPutRow.holds Try.pinned (OpenSpec.ofChange fnExactFoldPutWrong)

/- THE SECOND FORM. 'bulk': how many values and letters a reading holds, each counted each time it is reached (what is shared counts as often as it is met; a slice's spare places count too). A statement '..UptoSaid' is the law's where the arguments, and the package variables that the reading takes, are together of bulk at most 1048576: NARROWER than '..Said'. Prove '..Said' where nothing that the law and all that it calls make is longer than what came in: it says more and counts as full. Else prove '..UptoSaid'. A law counts once. -/
mutual
def uptoBulk {H : Type} : DataW H → Nat
  | .lit (.string bytes) => bytes.length + 1
  | .lit _ => 1
  | .nil => 1
  | .ptr d => uptoBulk d + 1
  | .slice elems spare => uptoBulkAll elems + uptoBulkAll spare + 1
  | .agg parts => uptoBulkAll parts + 1
  | .iface _ d => uptoBulk d + 1
  | .map entries => uptoBulkEntries entries + 1
  | .held _ => 1
def uptoBulkAll {H : Type} : List (DataW H) → Nat
  | [] => 0
  | d :: r => uptoBulk d + uptoBulkAll r
def uptoBulkEntries {H : Type} : List (Lit × DataW H) → Nat
  | [] => 0
  | x :: r => uptoBulkEntry x + uptoBulkEntries r
def uptoBulkEntry {H : Type} : Lit × DataW H → Nat
  | (.string bytes, d) => bytes.length + uptoBulk d + 1
  | (_, d) => uptoBulk d + 1
 end
def uptoSmall : (H : Type) → List (DataW H) → Bool := fun _ ds => decide (uptoBulkAll ds ≤ 1048576)
def OpenSpec.upto (s : _root_.Go.ChangeSpec) : _root_.Go.OpenSpec := { _root_.Go.OpenSpec.ofChange s with cond := some uptoSmall }

/-- 'laws.FnExactTableSplit', WHERE WHAT IT READS IS OF BULK AT MOST 1048576: true; the input reads as it did. -/
def fnExactTableSplitUptoRow : OpenClaim := { program := "ytaklcaejeaiagaa", sum := "a14165f14dc5183e8e7507030f617c796c986dc9aa3f634c536edd15fd852b11", func := "loop.example/capstan/laws.FnExactTableSplit", spec := "fnExactTableSplit", inPlace := ["slices.overlaps[loop.example/capstan/impl.TableRange]"], unfollowed := true, recurses := true, apart := false, narrowed := true }
def FnExactTableSplitUptoSaid : Prop := fnExactTableSplitUptoRow.holds Try.pinned (OpenSpec.upto fnExactTableSplitSpec)

/-- 'laws.FnTableSplit', WHERE WHAT IT READS IS OF BULK AT MOST 1048576: true; the input reads as it did. -/
def fnTableSplitUptoRow : OpenClaim := { program := "ytaklcaejeaiagaa", sum := "a14165f14dc5183e8e7507030f617c796c986dc9aa3f634c536edd15fd852b11", func := "loop.example/capstan/laws.FnTableSplit", spec := "fnTableSplit", inPlace := ["slices.overlaps[loop.example/capstan/impl.TableRange]"], unfollowed := true, recurses := true, apart := false, narrowed := true }
def FnTableSplitUptoSaid : Prop := fnTableSplitUptoRow.holds Try.pinned (OpenSpec.upto fnTableSplitSpec)

/-- 'laws.FnExactTxnAll', WHERE WHAT IT READS IS OF BULK AT MOST 1048576: true; the input reads as it did. -/
def fnExactTxnAllUptoRow : OpenClaim := { program := "ytaklcaejeaiagaa", sum := "a14165f14dc5183e8e7507030f617c796c986dc9aa3f634c536edd15fd852b11", func := "loop.example/capstan/laws.FnExactTxnAll", spec := "fnExactTxnAll", unfollowed := true, recurses := true, apart := false, narrowed := true }
def FnExactTxnAllUptoSaid : Prop := fnExactTxnAllUptoRow.holds Try.pinned (OpenSpec.upto fnExactTxnAllSpec)

/-- 'laws.FnFoldPut', WHERE WHAT IT READS IS OF BULK AT MOST 1048576: true; the input reads as it did. -/
def fnFoldPutUptoRow : OpenClaim := { program := "ytaklcaejeaiagaa", sum := "a14165f14dc5183e8e7507030f617c796c986dc9aa3f634c536edd15fd852b11", func := "loop.example/capstan/laws.FnFoldPut", spec := "fnFoldPut", unfollowed := true, recurses := true, apart := false, narrowed := true }
def FnFoldPutUptoSaid : Prop := fnFoldPutUptoRow.holds Try.pinned (OpenSpec.upto fnFoldPutSpec)

/-- 'laws.FnExactFoldPut', WHERE WHAT IT READS IS OF BULK AT MOST 1048576: true; the input reads as it did. -/
def fnExactFoldPutUptoRow : OpenClaim := { program := "ytaklcaejeaiagaa", sum := "a14165f14dc5183e8e7507030f617c796c986dc9aa3f634c536edd15fd852b11", func := "loop.example/capstan/laws.FnExactFoldPut", spec := "fnExactFoldPut", unfollowed := true, recurses := true, apart := false, narrowed := true }
def FnExactFoldPutUptoSaid : Prop := fnExactFoldPutUptoRow.holds Try.pinned (OpenSpec.upto fnExactFoldPutSpec)

end Rows
end Go.Proofs.Ytaklcaejeaiagaa
