/- What is left of the law FnExactTableLeave: a statement over numbers and lists. Its conditions: each number is of its kind. -/
import Derived.Test.YtekhlpkodgjdeaaHOpen
import Derived.Test.YtekhlpkodgjdeaaPFnExactTableLeavex6
namespace Go.Proofs.Ytekhlpkodgjdeaa.fnExactTableLeave
open Go.RowKit Go.Proofs.YtekhlpkodgjdeaaH Go.Proofs.Ytekhlpkodgjdeaa.PFnExactTableLeave Go.Proofs.YtekhlpkodgjdeaaW.PrintWords Go.Proofs.YtekhlpkodgjdeaaW.PrintLast
def G3 (n : Int) : Prop := (Lit.int .i64 n).wf = true
theorem opens3 : Opens Try.prog 3 (Kd.int .i64) G3 := Opens.int Try.underlying3 (by kernel_rfl)
def G72e (x : S72) : Prop := G3 x.f0 ∧ G3 x.f1 ∧ G3 x.f2
theorem opens72e : Opens Try.prog 72 k72 G72e :=
  Opens.struct (fun x : S72 => (x.f0, x.f1, x.f2)) (fun y => ⟨y.1, y.2.1, y.2.2⟩) (fun _ => rfl) Try.underlying72 (by kernel_rfl) (OpensFields.cons rfl opens3 (OpensFields.cons rfl opens3 (OpensFields.one rfl opens3)))
def G22 (xs : List S72) : Prop := xs.length ≤ 9223372036854775807 ∧ ∀ x ∈ xs, G72e x
theorem opens22 : Opens Try.prog 22 (Kd.slice 72 k72) G22 := Opens.slice Try.underlying22 (by kernel_rfl) opens72e
def G24 (x : Int × Int × List S72) : Prop := G3 (x.1) ∧ G3 (x.2.1) ∧ G22 (x.2.2)
theorem opens24 : Opens Try.prog 24 (Kd.iso (Kd.pair (Kd.int .i64) (Kd.pair (Kd.int .i64) (Kd.slice 72 k72))) (fun x : Int × Int × List S72 => x)) G24 :=
  Opens.struct (fun x => x) (fun y => y) (fun _ => rfl) Try.underlying24 (by kernel_rfl) (OpensFields.cons rfl opens3 (OpensFields.cons rfl opens3 (OpensFields.one rfl opens22)))
def Goal : Prop := ∀ (x0 : Int × Int × List S72) (x1 : Int), G24 x0 → G3 x1 → ∃ k, laws_FnExactTableLeave.f k x0.1 x0.2.1 x0.2.2 x1 = some true
end Go.Proofs.Ytekhlpkodgjdeaa.fnExactTableLeave
