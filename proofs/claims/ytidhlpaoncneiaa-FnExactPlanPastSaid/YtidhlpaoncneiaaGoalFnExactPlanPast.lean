/- What is left of the law FnExactPlanPast: a statement over numbers and lists. Its conditions: each number is of its kind. -/
import Derived.Test.YtidhlpaoncneiaaHOpen
import Derived.Test.YtidhlpaoncneiaaPFnExactPlanPastx7
namespace Go.Proofs.Ytidhlpaoncneiaa.fnExactPlanPast
open Go.RowKit Go.Proofs.YtidhlpaoncneiaaH Go.Proofs.Ytidhlpaoncneiaa.PFnExactPlanPast Go.Proofs.YtidhlpaoncneiaaW.PrintWords Go.Proofs.YtidhlpaoncneiaaW.PrintLast
def G3 (n : Int) : Prop := (Lit.int .i64 n).wf = true
theorem opens3 : Opens Try.prog 3 (Kd.int .i64) G3 := Opens.int Try.underlying3 (by kernel_rfl)
def G174e (x : S174) : Prop := G3 x.f0 ∧ G3 x.f1 ∧ G3 x.f2
theorem opens174e : Opens Try.prog 174 k174 G174e :=
  Opens.struct (fun x : S174 => (x.f0, x.f1, x.f2)) (fun y => ⟨y.1, y.2.1, y.2.2⟩) (fun _ => rfl) Try.underlying174 (by kernel_rfl) (OpensFields.cons rfl opens3 (OpensFields.cons rfl opens3 (OpensFields.one rfl opens3)))
def G52 (xs : List S174) : Prop := xs.length ≤ 9223372036854775807 ∧ ∀ x ∈ xs, G174e x
theorem opens52 : Opens Try.prog 52 (Kd.slice 174 k174) G52 := Opens.slice Try.underlying52 (by kernel_rfl) opens174e
def G54 (x : Int × Int × List S174) : Prop := G3 (x.1) ∧ G3 (x.2.1) ∧ G52 (x.2.2)
theorem opens54 : Opens Try.prog 54 (Kd.iso (Kd.pair (Kd.int .i64) (Kd.pair (Kd.int .i64) (Kd.slice 174 k174))) (fun x : Int × Int × List S174 => x)) G54 :=
  Opens.struct (fun x => x) (fun y => y) (fun _ => rfl) Try.underlying54 (by kernel_rfl) (OpensFields.cons rfl opens3 (OpensFields.cons rfl opens3 (OpensFields.one rfl opens52)))
def G137e (x : S137) : Prop := G3 x.f0 ∧ G3 x.f1 ∧ G3 x.f2
theorem opens137e : Opens Try.prog 137 k137 G137e :=
  Opens.struct (fun x : S137 => (x.f0, x.f1, x.f2)) (fun y => ⟨y.1, y.2.1, y.2.2⟩) (fun _ => rfl) Try.underlying137 (by kernel_rfl) (OpensFields.cons rfl opens3 (OpensFields.cons rfl opens3 (OpensFields.one rfl opens3)))
def G55 (xs : List S137) : Prop := xs.length ≤ 9223372036854775807 ∧ ∀ x ∈ xs, G137e x
theorem opens55 : Opens Try.prog 55 (Kd.slice 137 k137) G55 := Opens.slice Try.underlying55 (by kernel_rfl) opens137e
def G57 (x : Int × (Int × Int × List S174) × List S137 × Int × Int) : Prop := G3 (x.1) ∧ G54 (x.2.1) ∧ G55 (x.2.2.1) ∧ G3 (x.2.2.2.1) ∧ G3 (x.2.2.2.2)
theorem opens57 : Opens Try.prog 57 (Kd.iso (Kd.pair (Kd.int .i64) (Kd.pair (Kd.iso (Kd.pair (Kd.int .i64) (Kd.pair (Kd.int .i64) (Kd.slice 174 k174))) (fun x : Int × Int × List S174 => x)) (Kd.pair (Kd.slice 137 k137) (Kd.pair (Kd.int .i64) (Kd.int .i64))))) (fun x : Int × (Int × Int × List S174) × List S137 × Int × Int => x)) G57 :=
  Opens.struct (fun x => x) (fun y => y) (fun _ => rfl) Try.underlying57 (by kernel_rfl) (OpensFields.cons rfl opens3 (OpensFields.cons rfl opens54 (OpensFields.cons rfl opens55 (OpensFields.cons rfl opens3 (OpensFields.one rfl opens3)))))
def Goal : Prop := ∀ (x0 : Int × (Int × Int × List S174) × List S137 × Int × Int) (x1 : Int) (x2 : Int), G57 x0 → G3 x1 → G3 x2 → ∃ k, laws_FnExactPlanPast.f k x0.1 x0.2.1.1 x0.2.1.2.1 x0.2.1.2.2 x0.2.2.1 x0.2.2.2.1 x0.2.2.2.2 x1 x2 = some true
end Go.Proofs.Ytidhlpaoncneiaa.fnExactPlanPast
