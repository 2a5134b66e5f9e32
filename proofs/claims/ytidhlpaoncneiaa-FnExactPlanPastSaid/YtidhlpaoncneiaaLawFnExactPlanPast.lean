/- The law FnExactPlanPast holds of the given program, at every input: it returns true, and its arguments read afterwards as before. No condition. -/
import Derived.Test.YtidhlpaoncneiaaRows
import Derived.Test.YtidhlpaoncneiaaGoalFnExactPlanPast
import Derived.Test.YtidhlpaoncneiaaPureFnExactPlanPast
import Derived.WalkKit
import Derived.ProofKit
import Derived.OpenShut
import Derived.ShutString
import Derived.ChangeOld
import Derived.Below
import Derived.SizedLaws
namespace Go.Proofs.Ytidhlpaoncneiaa.fnExactPlanPast
open Go.ChangeShapes Go.WideShapes Go.ChangeAt Go.RowKit Go.Proofs.YtidhlpaoncneiaaH Go.Proofs.YtidhlpaoncneiaaW.PrintWords Go.Proofs.Ytidhlpaoncneiaa.PFnExactPlanPast
open Go.ChangeMaps (open_string shut_string)
set_option linter.unusedVariables false
theorem own : ownKnob Try.prog.godebug = none := by kernel_rfl
theorem laidOut : laidOutB Try.prog = true := by kernel_rfl
set_option maxRecDepth 100000 in
theorem lifted (os : Os) (started : os.Started) (H : Type) (enc : TypeId × Value → H) :
    ReturnsInHanded {} Try.checked os 7 .any (Rows.fnExactPlanPastSpec.pre6 enc Try.prog Try.f7 Rows.fnExactPlanPastRow.domain false) (Rows.fnExactPlanPastSpec.post enc Try.prog Try.f7 false true false false) := by
  refine returnsInHanded_of_change_sized (C := Try.checked) own started (by kernel_rfl) Try.func7
    (ChangeSpec.witness6 (enc := enc) (C := Try.checked) false ⟨#[], #[.agg #[.int .i64 0, .int .i64 0, .int .i64 0, .slice none 0 0, .slice none 0 0, .int .i64 0, .int .i64 0], .int .i64 0, .int .i64 0], []⟩ 8 (by kernel_rfl) (by kernel_rfl) (by kernel_rfl) (by kernel_rfl)) ?_
  intro W base args ds gs before hval0 hW hcnd hsz0 _
  have hval : ∀ (j : Nat) t v, Try.f7.params[j]? = some t → args[j]? = some v → Value.okWide Try.prog W .any base t v := hval0
  have hW' := hW
  obtain ⟨p, q, hA0, hV, rfl, hfz, hnd⟩ := hW
  have hA : DataW.TrodAll enc Try.prog W 0 (fun _ => true) true Try.f7.params.toList args.toList ds p := hA0
  rw [Try.params7] at hA hval
  obtain ⟨v0, vs0, d0, ds0, p0, q0, hargs, rfl, rfl, h0, r0⟩ := trodAll_cons hA
  obtain ⟨v1, vs1, d1, ds1, p1, q1, rfl, rfl, rfl, h1, r1⟩ := trodAll_cons r0
  obtain ⟨v2, vs2, d2, ds2, p2, q2, rfl, rfl, rfl, h2, r2⟩ := trodAll_cons r1
  obtain ⟨rfl, rfl, rfl⟩ := trodAll_nil r2
  obtain rfl : args = #[v0, v1, v2] := by cases args; simp_all
  obtain ⟨rfl, rfl⟩ := trodVars_none hV
  have k0_ := h0
  have lt0 : ∀ x ∈ p0, x.block < W.heap.size := by obtain ⟨m, hm⟩ := k0_; exact DataW.trod_lt m _ _ _ hm
  obtain ⟨cs0, rfl, hcs0⟩ := okWide_struct Try.underlying57 (hval 0 57 v0 rfl rfl)
  obtain ⟨fuel0, hf0⟩ := h0
  obtain ⟨x0, hx0, hg0⟩ := opens57.op hf0
  have e0 : ∃ cz, cz = cs0.toList := ⟨_, rfl⟩
  obtain ⟨cz0, e0⟩ := e0
  have hx0' : ((Kd.pair (Kd.int .i64) (Kd.pair (Kd.iso (Kd.pair (Kd.int .i64) (Kd.pair (Kd.int .i64) (Kd.slice 174 k174))) (fun x : Int × Int × List S174 => x)) (Kd.pair (Kd.slice 137 k137) (Kd.pair (Kd.int .i64) (Kd.int .i64)))))).K W x0 cz0 := by rw [e0]; exact hx0
  clear hx0 hf0 hcs0
  obtain ⟨ca1, cb1, rfl, ha1, hb1⟩ := hx0'
  obtain rfl : ca1 = _ := ha1
  obtain ⟨ca2, cb2, rfl, ha2, hb2⟩ := hb1
  obtain ⟨ca3, cb3, rfl, ha3, hb3⟩ := ha2
  obtain rfl : ca3 = _ := ha3
  obtain ⟨ca4, cb4, rfl, ha4, hb4⟩ := hb3
  obtain rfl : ca4 = _ := ha4
  obtain ⟨A5, c5, rfl, hc5, hr5⟩ := hb4
  obtain ⟨ca6, cb6, rfl, ha6, hb6⟩ := hb2
  obtain ⟨A7, c7, rfl, hc7, hr7⟩ := ha6
  obtain ⟨ca8, cb8, rfl, ha8, hb8⟩ := hb6
  obtain rfl : ca8 = _ := ha8
  obtain rfl : cb8 = _ := hb8
  obtain rfl : cs0 = #[.int .i64 x0.1, .int .i64 x0.2.1.1, .int .i64 x0.2.1.2.1, .slice A5 x0.2.1.2.2.length c5, .slice A7 x0.2.2.1.length c7, .int .i64 x0.2.2.2.1, .int .i64 x0.2.2.2.2] := by rw [← Array.toArray_toList (xs := cs0), ← e0]; rfl
  clear e0
  have k1_ := h1
  have lt1 : ∀ x ∈ p1, x.block < W.heap.size := by obtain ⟨m, hm⟩ := k1_; exact DataW.trod_lt m _ _ _ hm
  obtain ⟨x1, rfl⟩ := okWide_int Try.underlying3 (hval 1 3 v1 rfl rfl)
  obtain ⟨fuel1, hf1⟩ := h1
  obtain ⟨z1, hx1, hg1⟩ := opens3.op hf1
  obtain rfl : x1 = z1 := by have hz : (Value.int .i64 x1).cells.toList = [Value.int .i64 z1] := hx1; simpa [Value.cells] using hz
  clear hf1 hx1
  have k2_ := h2
  have lt2 : ∀ x ∈ p2, x.block < W.heap.size := by obtain ⟨m, hm⟩ := k2_; exact DataW.trod_lt m _ _ _ hm
  obtain ⟨x2, rfl⟩ := okWide_int Try.underlying3 (hval 2 3 v2 rfl rfl)
  obtain ⟨fuel2, hf2⟩ := h2
  obtain ⟨z2, hx2, hg2⟩ := opens3.op hf2
  obtain rfl : x2 = z2 := by have hz : (Value.int .i64 x2).cells.toList = [Value.int .i64 z2] := hx2; simpa [Value.cells] using hz
  clear hf2 hx2
  clear hA0 hval0 hsz0 hval
  obtain ⟨k, hk⟩ := Pure.FnExactPlanPast x0 x1 x2 hg0 hg1 hg2
  refine (laws_FnExactPlanPast.calls k x0.1 x0.2.1.1 x0.2.1.2.1 A5 c5 x0.2.1.2.2 A7 c7 x0.2.2.1 x0.2.2.2.1 x0.2.2.2.2 x1 x2 true W rfl hr5 hc5 hr7 hc7 hk).mono fun e W' he => ?_
  obtain ⟨rfl, bel⟩ := he
  exact ⟨_, rfl, _, _, _, [], _, [], hW', trodAll_mk1 (shut_bool Try.underlying4 _), (trodAll_cons_mk (Below.trod laidOut (by kernel_rfl) (of_decide_eq_true (by kernel_rfl)) k0_ bel lt0) (trodAll_cons_mk (Below.trod laidOut (by kernel_rfl) (of_decide_eq_true (by kernel_rfl)) k1_ bel lt1) (trodAll_cons_mk (Below.trod laidOut (by kernel_rfl) (of_decide_eq_true (by kernel_rfl)) k2_ bel lt2) trodAll_mk0))), rfl, bel.frame _, fun h => by cases h⟩
theorem over : Rows.fnExactPlanPastRow.holds Try.pinned (OpenSpec.ofChange Rows.fnExactPlanPastSpec) :=
  OpenClaim.holds_of_wide 7 Try.f7 rfl rfl rfl rfl rfl rfl rfl ⟨rfl, rfl, rfl, rfl, rfl⟩ rfl rfl rfl rfl rfl (by kernel_rfl) Try.func7 (by kernel_rfl)
    (of_decide_eq_true (by kernel_rfl)) (by unfold Func.isWrapper; first | (rw [if_pos (by decide +kernel)]; kernel_rfl) | (rw [if_neg (by decide +kernel)]; exact ⟨rfl, rfl⟩))
    (fun os started H enc _ => lifted os started H enc)
theorem proved : Rows.FnExactPlanPastSaid := over
#print axioms proved
end Go.Proofs.Ytidhlpaoncneiaa.fnExactPlanPast
namespace Go.Proofs.Ytidhlpaoncneiaa
/-- The row, under a short name, for the claim. -/
theorem fnExactPlanPast_holds : Rows.FnExactPlanPastSaid := fnExactPlanPast.proved
end Go.Proofs.Ytidhlpaoncneiaa
