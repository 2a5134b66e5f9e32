/-
  No cell of these rows narrows 'for every input' (looked for: loops, veiled, ifaces, maps, wideKeys, modest, calm, conditions, laid).
  DERIVED. THE GIVEN ROWS OF THIS SEAT. 9 by the template 'for every input the law returns true; each argument reads behind the call as it read before'; 0 by the template 'total and deterministic' (their statements: YtidhlpaoncneiaaTotals.lean).
  GIVEN WITH THE SEED: the statements are not yours to turn. If you find one false, say at which input.
  Laid BY PROGRAM, IN A SANDBOX (cutbox-rows.mjs): the forced cells as the released guide's own fill.sh prints them over the translation 4c36e9257df03729… (all of the seat's roots in one cut). By AI agents, Wed Nov 11 2026. No macro, syntax, notation, axiom, sorry.
-/
import Derived.Test.YtidhlpaoncneiaaChecked
import GoSem.Claim
import GoSem.ClaimJoined
import GoSem.ClaimMapViews
import Derived.JoinedTies
import Derived.KernelRfl
namespace Go.Proofs.Ytidhlpaoncneiaa
/- THE CELL 'sum', in the pinned program and in every row, IS THE sha256 OF THE DUMP (.gsa) THAT YtidhlpaoncneiaaProg.lean LOADS. Nothing in Lean hashes anything: it is a label: what it is worth is what the hold of that sum in a sandbox is worth. -/
noncomputable def Try.pinned : Pinned := { name := "ytidhlpaoncneiaa", sum := "4c36e9257df037298c3ea207faa17f46b857066331b5a65f6ea387430889b0e2", checked := Try.checked }
namespace Rows
def none {H : Type} : Left H := { results := [], args := [] }

/-- 'laws.FnExactNodeStart': WHATEVER THE INPUT: true; the input reads as it did. -/
def fnExactNodeStartSpec : ChangeSpec := { name := "fnExactNodeStart", fn := fun _ => fun
  | [d] => { results := [.lit (.bool true)], args := [d] }
  | _ => none }
def fnExactNodeStartRow : OpenClaim := { program := "ytidhlpaoncneiaa", sum := "4c36e9257df037298c3ea207faa17f46b857066331b5a65f6ea387430889b0e2", func := "loop.example/capstan/laws.FnExactNodeStart", spec := "fnExactNodeStart", apart := false }
def FnExactNodeStartSaid : Prop := fnExactNodeStartRow.holds Try.pinned (OpenSpec.ofChange fnExactNodeStartSpec)

/-- ITS FALSE NEIGHBOUR: 'it returns false'. Refute it at one input. -/
def fnExactNodeStartWrong : ChangeSpec := { name := "fnExactNodeStart", fn := fun _ => fun
  | [d] => { results := [.lit (.bool false)], args := [d] }
  | _ => none }
def FnExactNodeStartWrongFalsely : Prop := fnExactNodeStartRow.holds Try.pinned (OpenSpec.ofChange fnExactNodeStartWrong)

/-- 'laws.FnExactPlanStart': WHATEVER THE INPUT: true; the input reads as it did. -/
def fnExactPlanStartSpec : ChangeSpec := { name := "fnExactPlanStart", fn := fun _ => fun
  | [] => { results := [.lit (.bool true)], args := [] }
  | _ => none }
def fnExactPlanStartRow : OpenClaim := { program := "ytidhlpaoncneiaa", sum := "4c36e9257df037298c3ea207faa17f46b857066331b5a65f6ea387430889b0e2", func := "loop.example/capstan/laws.FnExactPlanStart", spec := "fnExactPlanStart", apart := false }
def FnExactPlanStartSaid : Prop := fnExactPlanStartRow.holds Try.pinned (OpenSpec.ofChange fnExactPlanStartSpec)

/-- ITS FALSE NEIGHBOUR: 'it returns false'. Refute it at one input. -/
def fnExactPlanStartWrong : ChangeSpec := { name := "fnExactPlanStart", fn := fun _ => fun
  | [] => { results := [.lit (.bool false)], args := [] }
  | _ => none }
def FnExactPlanStartWrongFalsely : Prop := fnExactPlanStartRow.holds Try.pinned (OpenSpec.ofChange fnExactPlanStartWrong)

/-- 'laws.FnExactRaftStart': WHATEVER THE INPUT: true; the input reads as it did. -/
def fnExactRaftStartSpec : ChangeSpec := { name := "fnExactRaftStart", fn := fun _ => fun
  | [d] => { results := [.lit (.bool true)], args := [d] }
  | _ => none }
def fnExactRaftStartRow : OpenClaim := { program := "ytidhlpaoncneiaa", sum := "4c36e9257df037298c3ea207faa17f46b857066331b5a65f6ea387430889b0e2", func := "loop.example/capstan/laws.FnExactRaftStart", spec := "fnExactRaftStart", apart := false }
def FnExactRaftStartSaid : Prop := fnExactRaftStartRow.holds Try.pinned (OpenSpec.ofChange fnExactRaftStartSpec)

/-- ITS FALSE NEIGHBOUR: 'it returns false'. Refute it at one input. -/
def fnExactRaftStartWrong : ChangeSpec := { name := "fnExactRaftStart", fn := fun _ => fun
  | [d] => { results := [.lit (.bool false)], args := [d] }
  | _ => none }
def FnExactRaftStartWrongFalsely : Prop := fnExactRaftStartRow.holds Try.pinned (OpenSpec.ofChange fnExactRaftStartWrong)

/-- 'laws.FnExactPlanOk': WHATEVER THE INPUT: true; the input reads as it did. -/
def fnExactPlanOkSpec : ChangeSpec := { name := "fnExactPlanOk", fn := fun _ => fun
  | [d] => { results := [.lit (.bool true)], args := [d] }
  | _ => none }
def fnExactPlanOkRow : OpenClaim := { program := "ytidhlpaoncneiaa", sum := "4c36e9257df037298c3ea207faa17f46b857066331b5a65f6ea387430889b0e2", func := "loop.example/capstan/laws.FnExactPlanOk", spec := "fnExactPlanOk", unfollowed := true, recurses := true, apart := false }
def FnExactPlanOkSaid : Prop := fnExactPlanOkRow.holds Try.pinned (OpenSpec.ofChange fnExactPlanOkSpec)

/-- ITS FALSE NEIGHBOUR: 'it returns false'. Refute it at one input. -/
def fnExactPlanOkWrong : ChangeSpec := { name := "fnExactPlanOk", fn := fun _ => fun
  | [d] => { results := [.lit (.bool false)], args := [d] }
  | _ => none }
def FnExactPlanOkWrongFalsely : Prop := fnExactPlanOkRow.holds Try.pinned (OpenSpec.ofChange fnExactPlanOkWrong)

/-- 'laws.FnExactPlanPast': WHATEVER THE INPUT: true; the input reads as it did. -/
def fnExactPlanPastSpec : ChangeSpec := { name := "fnExactPlanPast", fn := fun _ => fun
  | [d1, d2, d3] => { results := [.lit (.bool true)], args := [d1, d2, d3] }
  | _ => none }
def fnExactPlanPastRow : OpenClaim := { program := "ytidhlpaoncneiaa", sum := "4c36e9257df037298c3ea207faa17f46b857066331b5a65f6ea387430889b0e2", func := "loop.example/capstan/laws.FnExactPlanPast", spec := "fnExactPlanPast", unfollowed := true, recurses := true, apart := false }
def FnExactPlanPastSaid : Prop := fnExactPlanPastRow.holds Try.pinned (OpenSpec.ofChange fnExactPlanPastSpec)

/-- ITS FALSE NEIGHBOUR: 'it returns false'. Refute it at one input. -/
def fnExactPlanPastWrong : ChangeSpec := { name := "fnExactPlanPast", fn := fun _ => fun
  | [d1, d2, d3] => { results := [.lit (.bool false)], args := [d1, d2, d3] }
  | _ => none }
def FnExactPlanPastWrongFalsely : Prop := fnExactPlanPastRow.holds Try.pinned (OpenSpec.ofChange fnExactPlanPastWrong)

/-- 'laws.FnExactPlanMost': WHATEVER THE INPUT: true; the input reads as it did. -/
def fnExactPlanMostSpec : ChangeSpec := { name := "fnExactPlanMost", fn := fun _ => fun
  | [d1, d2] => { results := [.lit (.bool true)], args := [d1, d2] }
  | _ => none }
def fnExactPlanMostRow : OpenClaim := { program := "ytidhlpaoncneiaa", sum := "4c36e9257df037298c3ea207faa17f46b857066331b5a65f6ea387430889b0e2", func := "loop.example/capstan/laws.FnExactPlanMost", spec := "fnExactPlanMost", unfollowed := true, recurses := true, apart := false }
def FnExactPlanMostSaid : Prop := fnExactPlanMostRow.holds Try.pinned (OpenSpec.ofChange fnExactPlanMostSpec)

/-- ITS FALSE NEIGHBOUR: 'it returns false'. Refute it at one input. -/
def fnExactPlanMostWrong : ChangeSpec := { name := "fnExactPlanMost", fn := fun _ => fun
  | [d1, d2] => { results := [.lit (.bool false)], args := [d1, d2] }
  | _ => none }
def FnExactPlanMostWrongFalsely : Prop := fnExactPlanMostRow.holds Try.pinned (OpenSpec.ofChange fnExactPlanMostWrong)

/-- 'laws.FnExactFoldStart': WHATEVER THE INPUT: true; the input reads as it did. -/
def fnExactFoldStartSpec : ChangeSpec := { name := "fnExactFoldStart", fn := fun _ => fun
  | [] => { results := [.lit (.bool true)], args := [] }
  | _ => none }
def fnExactFoldStartRow : OpenClaim := { program := "ytidhlpaoncneiaa", sum := "4c36e9257df037298c3ea207faa17f46b857066331b5a65f6ea387430889b0e2", func := "loop.example/capstan/laws.FnExactFoldStart", spec := "fnExactFoldStart", apart := false }
def FnExactFoldStartSaid : Prop := fnExactFoldStartRow.holds Try.pinned (OpenSpec.ofChange fnExactFoldStartSpec)

/-- ITS FALSE NEIGHBOUR: 'it returns false'. Refute it at one input. -/
def fnExactFoldStartWrong : ChangeSpec := { name := "fnExactFoldStart", fn := fun _ => fun
  | [] => { results := [.lit (.bool false)], args := [] }
  | _ => none }
def FnExactFoldStartWrongFalsely : Prop := fnExactFoldStartRow.holds Try.pinned (OpenSpec.ofChange fnExactFoldStartWrong)

/-- 'laws.FnExactExecStart': WHATEVER THE INPUT: true; the input reads as it did. -/
def fnExactExecStartSpec : ChangeSpec := { name := "fnExactExecStart", fn := fun _ => fun
  | [d] => { results := [.lit (.bool true)], args := [d] }
  | _ => none }
def fnExactExecStartRow : OpenClaim := { program := "ytidhlpaoncneiaa", sum := "4c36e9257df037298c3ea207faa17f46b857066331b5a65f6ea387430889b0e2", func := "loop.example/capstan/laws.FnExactExecStart", spec := "fnExactExecStart", apart := false }
def FnExactExecStartSaid : Prop := fnExactExecStartRow.holds Try.pinned (OpenSpec.ofChange fnExactExecStartSpec)

/-- ITS FALSE NEIGHBOUR: 'it returns false'. Refute it at one input. -/
def fnExactExecStartWrong : ChangeSpec := { name := "fnExactExecStart", fn := fun _ => fun
  | [d] => { results := [.lit (.bool false)], args := [d] }
  | _ => none }
def FnExactExecStartWrongFalsely : Prop := fnExactExecStartRow.holds Try.pinned (OpenSpec.ofChange fnExactExecStartWrong)

/-- 'laws.FnExactFoldOk': WHATEVER THE INPUT: true; the input reads as it did. -/
def fnExactFoldOkSpec : ChangeSpec := { name := "fnExactFoldOk", fn := fun _ => fun
  | [d] => { results := [.lit (.bool true)], args := [d] }
  | _ => none }
def fnExactFoldOkRow : OpenClaim := { program := "ytidhlpaoncneiaa", sum := "4c36e9257df037298c3ea207faa17f46b857066331b5a65f6ea387430889b0e2", func := "loop.example/capstan/laws.FnExactFoldOk", spec := "fnExactFoldOk", unfollowed := true, recurses := true, apart := false }
def FnExactFoldOkSaid : Prop := fnExactFoldOkRow.holds Try.pinned (OpenSpec.ofChange fnExactFoldOkSpec)

/-- ITS FALSE NEIGHBOUR: 'it returns false'. Refute it at one input. -/
def fnExactFoldOkWrong : ChangeSpec := { name := "fnExactFoldOk", fn := fun _ => fun
  | [d] => { results := [.lit (.bool false)], args := [d] }
  | _ => none }
def FnExactFoldOkWrongFalsely : Prop := fnExactFoldOkRow.holds Try.pinned (OpenSpec.ofChange fnExactFoldOkWrong)

/- THE SECOND FORM. 'bulk': how many values and letters a reading holds, each counted each time it is reached (what is shared counts as often as it is met; a slice's spare places count too). A statement '..UptoSaid' is the law's where the arguments, and the package variables that the reading takes, are together of bulk at most 1048576: NARROWER than '..Said'. Prove '..Said' where nothing that the law and all that it calls make is longer than what came in: it says more and counts as full. Else prove '..UptoSaid'. A law counts once. -/
mutual
def uptoBulk {H : Type} : DataW H → Nat
  | .lit (.string bytes) => bytes.length + 1
  | .lit _ => 1
  | .nil => 1
  | .ptr d => uptoBulk d + 1
  | .slice elems spare => uptoBulkAll elems + uptoBulkAll spare + 1
  | .agg parts => uptoBulkAll parts + 1
  | .iface _ d => uptoBulk d + 1
  | .map entries => uptoBulkEntries entries + 1
  | .held _ => 1
def uptoBulkAll {H : Type} : List (DataW H) → Nat
  | [] => 0
  | d :: r => uptoBulk d + uptoBulkAll r
def uptoBulkEntries {H : Type} : List (Lit × DataW H) → Nat
  | [] => 0
  | x :: r => uptoBulkEntry x + uptoBulkEntries r
def uptoBulkEntry {H : Type} : Lit × DataW H → Nat
  | (.string bytes, d) => bytes.length + uptoBulk d + 1
  | (_, d) => uptoBulk d + 1
 end
def uptoSmall : (H : Type) → List (DataW H) → Bool := fun _ ds => decide (uptoBulkAll ds ≤ 1048576)
def OpenSpec.upto (s : _root_.Go.ChangeSpec) : _root_.Go.OpenSpec := { _root_.Go.OpenSpec.ofChange s with cond := some uptoSmall }

/-- 'laws.FnExactNodeStart', WHERE WHAT IT READS IS OF BULK AT MOST 1048576: true; the input reads as it did. -/
def fnExactNodeStartUptoRow : OpenClaim := { program := "ytidhlpaoncneiaa", sum := "4c36e9257df037298c3ea207faa17f46b857066331b5a65f6ea387430889b0e2", func := "loop.example/capstan/laws.FnExactNodeStart", spec := "fnExactNodeStart", apart := false, narrowed := true }
def FnExactNodeStartUptoSaid : Prop := fnExactNodeStartUptoRow.holds Try.pinned (OpenSpec.upto fnExactNodeStartSpec)

/-- 'laws.FnExactPlanStart', WHERE WHAT IT READS IS OF BULK AT MOST 1048576: true; the input reads as it did. -/
def fnExactPlanStartUptoRow : OpenClaim := { program := "ytidhlpaoncneiaa", sum := "4c36e9257df037298c3ea207faa17f46b857066331b5a65f6ea387430889b0e2", func := "loop.example/capstan/laws.FnExactPlanStart", spec := "fnExactPlanStart", apart := false, narrowed := true }
def FnExactPlanStartUptoSaid : Prop := fnExactPlanStartUptoRow.holds Try.pinned (OpenSpec.upto fnExactPlanStartSpec)

/-- 'laws.FnExactRaftStart', WHERE WHAT IT READS IS OF BULK AT MOST 1048576: true; the input reads as it did. -/
def fnExactRaftStartUptoRow : OpenClaim := { program := "ytidhlpaoncneiaa", sum := "4c36e9257df037298c3ea207faa17f46b857066331b5a65f6ea387430889b0e2", func := "loop.example/capstan/laws.FnExactRaftStart", spec := "fnExactRaftStart", apart := false, narrowed := true }
def FnExactRaftStartUptoSaid : Prop := fnExactRaftStartUptoRow.holds Try.pinned (OpenSpec.upto fnExactRaftStartSpec)

/-- 'laws.FnExactPlanOk', WHERE WHAT IT READS IS OF BULK AT MOST 1048576: true; the input reads as it did. -/
def fnExactPlanOkUptoRow : OpenClaim := { program := "ytidhlpaoncneiaa", sum := "4c36e9257df037298c3ea207faa17f46b857066331b5a65f6ea387430889b0e2", func := "loop.example/capstan/laws.FnExactPlanOk", spec := "fnExactPlanOk", unfollowed := true, recurses := true, apart := false, narrowed := true }
def FnExactPlanOkUptoSaid : Prop := fnExactPlanOkUptoRow.holds Try.pinned (OpenSpec.upto fnExactPlanOkSpec)

/-- 'laws.FnExactPlanPast', WHERE WHAT IT READS IS OF BULK AT MOST 1048576: true; the input reads as it did. -/
def fnExactPlanPastUptoRow : OpenClaim := { program := "ytidhlpaoncneiaa", sum := "4c36e9257df037298c3ea207faa17f46b857066331b5a65f6ea387430889b0e2", func := "loop.example/capstan/laws.FnExactPlanPast", spec := "fnExactPlanPast", unfollowed := true, recurses := true, apart := false, narrowed := true }
def FnExactPlanPastUptoSaid : Prop := fnExactPlanPastUptoRow.holds Try.pinned (OpenSpec.upto fnExactPlanPastSpec)

/-- 'laws.FnExactPlanMost', WHERE WHAT IT READS IS OF BULK AT MOST 1048576: true; the input reads as it did. -/
def fnExactPlanMostUptoRow : OpenClaim := { program := "ytidhlpaoncneiaa", sum := "4c36e9257df037298c3ea207faa17f46b857066331b5a65f6ea387430889b0e2", func := "loop.example/capstan/laws.FnExactPlanMost", spec := "fnExactPlanMost", unfollowed := true, recurses := true, apart := false, narrowed := true }
def FnExactPlanMostUptoSaid : Prop := fnExactPlanMostUptoRow.holds Try.pinned (OpenSpec.upto fnExactPlanMostSpec)

/-- 'laws.FnExactFoldStart', WHERE WHAT IT READS IS OF BULK AT MOST 1048576: true; the input reads as it did. -/
def fnExactFoldStartUptoRow : OpenClaim := { program := "ytidhlpaoncneiaa", sum := "4c36e9257df037298c3ea207faa17f46b857066331b5a65f6ea387430889b0e2", func := "loop.example/capstan/laws.FnExactFoldStart", spec := "fnExactFoldStart", apart := false, narrowed := true }
def FnExactFoldStartUptoSaid : Prop := fnExactFoldStartUptoRow.holds Try.pinned (OpenSpec.upto fnExactFoldStartSpec)

/-- 'laws.FnExactExecStart', WHERE WHAT IT READS IS OF BULK AT MOST 1048576: true; the input reads as it did. -/
def fnExactExecStartUptoRow : OpenClaim := { program := "ytidhlpaoncneiaa", sum := "4c36e9257df037298c3ea207faa17f46b857066331b5a65f6ea387430889b0e2", func := "loop.example/capstan/laws.FnExactExecStart", spec := "fnExactExecStart", apart := false, narrowed := true }
def FnExactExecStartUptoSaid : Prop := fnExactExecStartUptoRow.holds Try.pinned (OpenSpec.upto fnExactExecStartSpec)

/-- 'laws.FnExactFoldOk', WHERE WHAT IT READS IS OF BULK AT MOST 1048576: true; the input reads as it did. -/
def fnExactFoldOkUptoRow : OpenClaim := { program := "ytidhlpaoncneiaa", sum := "4c36e9257df037298c3ea207faa17f46b857066331b5a65f6ea387430889b0e2", func := "loop.example/capstan/laws.FnExactFoldOk", spec := "fnExactFoldOk", unfollowed := true, recurses := true, apart := false, narrowed := true }
def FnExactFoldOkUptoSaid : Prop := fnExactFoldOkUptoRow.holds Try.pinned (OpenSpec.upto fnExactFoldOkSpec)

end Rows
end Go.Proofs.Ytidhlpaoncneiaa
