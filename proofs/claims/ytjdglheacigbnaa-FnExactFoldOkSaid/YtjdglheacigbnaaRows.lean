/-
  No cell of these rows narrows 'for every input' (looked for: loops, veiled, ifaces, maps, wideKeys, modest, calm, conditions, laid).
  DERIVED. THE GIVEN ROWS OF THIS SEAT. 3 by the template 'for every input the law returns true; each argument reads behind the call as it read before'; 0 by the template 'total and deterministic' (their statements: YtjdglheacigbnaaTotals.lean).
  GIVEN WITH THE SEED: the statements are not yours to turn. If you find one false, say at which input.
  Laid BY PROGRAM, IN A SANDBOX (cutbox-rows.mjs): the forced cells as the released guide's own fill.sh prints them over the translation ab7640d2d390e11f… (all of the seat's roots in one cut). By AI agents, Wed Nov 11 2026. No macro, syntax, notation, axiom, sorry.
-/
import Derived.Test.YtjdglheacigbnaaChecked
import GoSem.Claim
import GoSem.ClaimJoined
import GoSem.ClaimMapViews
import Derived.JoinedTies
import Derived.KernelRfl
namespace Go.Proofs.Ytjdglheacigbnaa
/- THE CELL 'sum', in the pinned program and in every row, IS THE sha256 OF THE DUMP (.gsa) THAT YtjdglheacigbnaaProg.lean LOADS. Nothing in Lean hashes anything: it is a label: what it is worth is what the hold of that sum in a sandbox is worth. -/
noncomputable def Try.pinned : Pinned := { name := "ytjdglheacigbnaa", sum := "ab7640d2d390e11ff2f52579c46264d11a762b60586777edb8200340156be33e", checked := Try.checked }
namespace Rows
def none {H : Type} : Left H := { results := [], args := [] }

/-- 'laws.FnExactNodeStart': WHATEVER THE INPUT: true; the input reads as it did. -/
def fnExactNodeStartSpec : ChangeSpec := { name := "fnExactNodeStart", fn := fun _ => fun
  | [d] => { results := [.lit (.bool true)], args := [d] }
  | _ => none }
def fnExactNodeStartRow : OpenClaim := { program := "ytjdglheacigbnaa", sum := "ab7640d2d390e11ff2f52579c46264d11a762b60586777edb8200340156be33e", func := "loop.example/capstan/laws.FnExactNodeStart", spec := "fnExactNodeStart", apart := false }
def FnExactNodeStartSaid : Prop := fnExactNodeStartRow.holds Try.pinned (OpenSpec.ofChange fnExactNodeStartSpec)

/-- ITS FALSE NEIGHBOUR: 'it returns false'. Refute it at one input. -/
def fnExactNodeStartWrong : ChangeSpec := { name := "fnExactNodeStart", fn := fun _ => fun
  | [d] => { results := [.lit (.bool false)], args := [d] }
  | _ => none }
def FnExactNodeStartWrongFalsely : Prop := fnExactNodeStartRow.holds Try.pinned (OpenSpec.ofChange fnExactNodeStartWrong)

/-- 'laws.FnExactFoldOk': WHATEVER THE INPUT: true; the input reads as it did. -/
def fnExactFoldOkSpec : ChangeSpec := { name := "fnExactFoldOk", fn := fun _ => fun
  | [d] => { results := [.lit (.bool true)], args := [d] }
  | _ => none }
def fnExactFoldOkRow : OpenClaim := { program := "ytjdglheacigbnaa", sum := "ab7640d2d390e11ff2f52579c46264d11a762b60586777edb8200340156be33e", func := "loop.example/capstan/laws.FnExactFoldOk", spec := "fnExactFoldOk", unfollowed := true, recurses := true, apart := false }
def FnExactFoldOkSaid : Prop := fnExactFoldOkRow.holds Try.pinned (OpenSpec.ofChange fnExactFoldOkSpec)

/-- ITS FALSE NEIGHBOUR: 'it returns false'. Refute it at one input. -/
def fnExactFoldOkWrong : ChangeSpec := { name := "fnExactFoldOk", fn := fun _ => fun
  | [d] => { results := [.lit (.bool false)], args := [d] }
  | _ => none }
def FnExactFoldOkWrongFalsely : Prop := fnExactFoldOkRow.holds Try.pinned (OpenSpec.ofChange fnExactFoldOkWrong)

/-- 'laws.FnExactExecOk': WHATEVER THE INPUT: true; the input reads as it did. -/
def fnExactExecOkSpec : ChangeSpec := { name := "fnExactExecOk", fn := fun _ => fun
  | [d] => { results := [.lit (.bool true)], args := [d] }
  | _ => none }
def fnExactExecOkRow : OpenClaim := { program := "ytjdglheacigbnaa", sum := "ab7640d2d390e11ff2f52579c46264d11a762b60586777edb8200340156be33e", func := "loop.example/capstan/laws.FnExactExecOk", spec := "fnExactExecOk", unfollowed := true, recurses := true, apart := false }
def FnExactExecOkSaid : Prop := fnExactExecOkRow.holds Try.pinned (OpenSpec.ofChange fnExactExecOkSpec)

/-- ITS FALSE NEIGHBOUR: 'it returns false'. Refute it at one input. -/
def fnExactExecOkWrong : ChangeSpec := { name := "fnExactExecOk", fn := fun _ => fun
  | [d] => { results := [.lit (.bool false)], args := [d] }
  | _ => none }
def FnExactExecOkWrongFalsely : Prop := fnExactExecOkRow.holds Try.pinned (OpenSpec.ofChange fnExactExecOkWrong)

/- THE SECOND FORM. 'bulk': how many values and letters a reading holds, each counted each time it is reached (what is shared counts as often as it is met; a slice's spare places count too). A statement '..UptoSaid' is the law's where the arguments, and the package variables that the reading takes, are together of bulk at most 1048576: NARROWER than '..Said'. Prove '..Said' where nothing that the law and all that it calls make is longer than what came in: it says more and counts as full. Else prove '..UptoSaid'. A law counts once. -/
mutual
def uptoBulk {H : Type} : DataW H → Nat
  | .lit (.string bytes) => bytes.length + 1
  | .lit _ => 1
  | .nil => 1
  | .ptr d => uptoBulk d + 1
  | .slice elems spare => uptoBulkAll elems + uptoBulkAll spare + 1
  | .agg parts => uptoBulkAll parts + 1
  | .iface _ d => uptoBulk d + 1
  | .map entries => uptoBulkEntries entries + 1
  | .held _ => 1
def uptoBulkAll {H : Type} : List (DataW H) → Nat
  | [] => 0
  | d :: r => uptoBulk d + uptoBulkAll r
def uptoBulkEntries {H : Type} : List (Lit × DataW H) → Nat
  | [] => 0
  | x :: r => uptoBulkEntry x + uptoBulkEntries r
def uptoBulkEntry {H : Type} : Lit × DataW H → Nat
  | (.string bytes, d) => bytes.length + uptoBulk d + 1
  | (_, d) => uptoBulk d + 1
 end
def uptoSmall : (H : Type) → List (DataW H) → Bool := fun _ ds => decide (uptoBulkAll ds ≤ 1048576)
def OpenSpec.upto (s : _root_.Go.ChangeSpec) : _root_.Go.OpenSpec := { _root_.Go.OpenSpec.ofChange s with cond := some uptoSmall }

/-- 'laws.FnExactNodeStart', WHERE WHAT IT READS IS OF BULK AT MOST 1048576: true; the input reads as it did. -/
def fnExactNodeStartUptoRow : OpenClaim := { program := "ytjdglheacigbnaa", sum := "ab7640d2d390e11ff2f52579c46264d11a762b60586777edb8200340156be33e", func := "loop.example/capstan/laws.FnExactNodeStart", spec := "fnExactNodeStart", apart := false, narrowed := true }
def FnExactNodeStartUptoSaid : Prop := fnExactNodeStartUptoRow.holds Try.pinned (OpenSpec.upto fnExactNodeStartSpec)

/-- 'laws.FnExactFoldOk', WHERE WHAT IT READS IS OF BULK AT MOST 1048576: true; the input reads as it did. -/
def fnExactFoldOkUptoRow : OpenClaim := { program := "ytjdglheacigbnaa", sum := "ab7640d2d390e11ff2f52579c46264d11a762b60586777edb8200340156be33e", func := "loop.example/capstan/laws.FnExactFoldOk", spec := "fnExactFoldOk", unfollowed := true, recurses := true, apart := false, narrowed := true }
def FnExactFoldOkUptoSaid : Prop := fnExactFoldOkUptoRow.holds Try.pinned (OpenSpec.upto fnExactFoldOkSpec)

/-- 'laws.FnExactExecOk', WHERE WHAT IT READS IS OF BULK AT MOST 1048576: true; the input reads as it did. -/
def fnExactExecOkUptoRow : OpenClaim := { program := "ytjdglheacigbnaa", sum := "ab7640d2d390e11ff2f52579c46264d11a762b60586777edb8200340156be33e", func := "loop.example/capstan/laws.FnExactExecOk", spec := "fnExactExecOk", unfollowed := true, recurses := true, apart := false, narrowed := true }
def FnExactExecOkUptoSaid : Prop := fnExactExecOkUptoRow.holds Try.pinned (OpenSpec.upto fnExactExecOkSpec)

end Rows
end Go.Proofs.Ytjdglheacigbnaa
