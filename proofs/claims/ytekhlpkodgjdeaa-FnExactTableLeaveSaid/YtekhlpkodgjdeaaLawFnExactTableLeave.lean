/- The law FnExactTableLeave holds of the given program, at every input: it returns true, and its arguments read afterwards as before. No condition. -/
import Derived.Test.YtekhlpkodgjdeaaRows
import Derived.Test.YtekhlpkodgjdeaaGoalFnExactTableLeave
import Derived.Test.YtekhlpkodgjdeaaPureFnExactTableLeave
import Derived.WalkKit
import Derived.ProofKit
import Derived.OpenShut
import Derived.ShutString
import Derived.ChangeOld
import Derived.Below
import Derived.SizedLaws
namespace Go.Proofs.Ytekhlpkodgjdeaa.fnExactTableLeave
open Go.ChangeShapes Go.WideShapes Go.ChangeAt Go.RowKit Go.Proofs.YtekhlpkodgjdeaaH Go.Proofs.YtekhlpkodgjdeaaW.PrintWords Go.Proofs.Ytekhlpkodgjdeaa.PFnExactTableLeave
open Go.ChangeMaps (open_string shut_string)
set_option linter.unusedVariables false
theorem own : ownKnob Try.prog.godebug = none := by kernel_rfl
theorem laidOut : laidOutB Try.prog = true := by kernel_rfl
set_option maxRecDepth 100000 in
theorem lifted (os : Os) (started : os.Started) (H : Type) (enc : TypeId × Value → H) :
    ReturnsInHanded {} Try.checked os 6 .any (Rows.fnExactTableLeaveSpec.pre6 enc Try.prog Try.f6 Rows.fnExactTableLeaveRow.domain false) (Rows.fnExactTableLeaveSpec.post enc Try.prog Try.f6 false true false false) := by
  refine returnsInHanded_of_change_sized (C := Try.checked) own started (by kernel_rfl) Try.func6
    (ChangeSpec.witness6 (enc := enc) (C := Try.checked) false ⟨#[], #[.agg #[.int .i64 0, .int .i64 0, .slice none 0 0], .int .i64 0], []⟩ 8 (by kernel_rfl) (by kernel_rfl) (by kernel_rfl) (by kernel_rfl)) ?_
  intro W base args ds gs before hval0 hW hcnd hsz0 _
  have hval : ∀ (j : Nat) t v, Try.f6.params[j]? = some t → args[j]? = some v → Value.okWide Try.prog W .any base t v := hval0
  have hW' := hW
  obtain ⟨p, q, hA0, hV, rfl, hfz, hnd⟩ := hW
  have hA : DataW.TrodAll enc Try.prog W 0 (fun _ => true) true Try.f6.params.toList args.toList ds p := hA0
  rw [Try.params6] at hA hval
  obtain ⟨v0, vs0, d0, ds0, p0, q0, hargs, rfl, rfl, h0, r0⟩ := trodAll_cons hA
  obtain ⟨v1, vs1, d1, ds1, p1, q1, rfl, rfl, rfl, h1, r1⟩ := trodAll_cons r0
  obtain ⟨rfl, rfl, rfl⟩ := trodAll_nil r1
  obtain rfl : args = #[v0, v1] := by cases args; simp_all
  obtain ⟨rfl, rfl⟩ := trodVars_none hV
  have k0_ := h0
  have lt0 : ∀ x ∈ p0, x.block < W.heap.size := by obtain ⟨m, hm⟩ := k0_; exact DataW.trod_lt m _ _ _ hm
  obtain ⟨cs0, rfl, hcs0⟩ := okWide_struct Try.underlying24 (hval 0 24 v0 rfl rfl)
  obtain ⟨fuel0, hf0⟩ := h0
  obtain ⟨x0, hx0, hg0⟩ := opens24.op hf0
  have e0 : ∃ cz, cz = cs0.toList := ⟨_, rfl⟩
  obtain ⟨cz0, e0⟩ := e0
  have hx0' : ((Kd.pair (Kd.int .i64) (Kd.pair (Kd.int .i64) (Kd.slice 72 k72)))).K W x0 cz0 := by rw [e0]; exact hx0
  clear hx0 hf0 hcs0
  obtain ⟨ca1, cb1, rfl, ha1, hb1⟩ := hx0'
  obtain rfl : ca1 = _ := ha1
  obtain ⟨ca2, cb2, rfl, ha2, hb2⟩ := hb1
  obtain rfl : ca2 = _ := ha2
  obtain ⟨A3, c3, rfl, hc3, hr3⟩ := hb2
  obtain rfl : cs0 = #[.int .i64 x0.1, .int .i64 x0.2.1, .slice A3 x0.2.2.length c3] := by rw [← Array.toArray_toList (xs := cs0), ← e0]; rfl
  clear e0
  have k1_ := h1
  have lt1 : ∀ x ∈ p1, x.block < W.heap.size := by obtain ⟨m, hm⟩ := k1_; exact DataW.trod_lt m _ _ _ hm
  obtain ⟨x1, rfl⟩ := okWide_int Try.underlying3 (hval 1 3 v1 rfl rfl)
  obtain ⟨fuel1, hf1⟩ := h1
  obtain ⟨z1, hx1, hg1⟩ := opens3.op hf1
  obtain rfl : x1 = z1 := by have hz : (Value.int .i64 x1).cells.toList = [Value.int .i64 z1] := hx1; simpa [Value.cells] using hz
  clear hf1 hx1
  clear hA0 hval0 hsz0 hval
  obtain ⟨k, hk⟩ := Pure.FnExactTableLeave x0 x1 hg0 hg1
  refine (laws_FnExactTableLeave.calls k x0.1 x0.2.1 A3 c3 x0.2.2 x1 true W rfl hr3 hc3 hk).mono fun e W' he => ?_
  obtain ⟨rfl, bel⟩ := he
  exact ⟨_, rfl, _, _, _, [], _, [], hW', trodAll_mk1 (shut_bool Try.underlying4 _), (trodAll_cons_mk (Below.trod laidOut (by kernel_rfl) (of_decide_eq_true (by kernel_rfl)) k0_ bel lt0) (trodAll_cons_mk (Below.trod laidOut (by kernel_rfl) (of_decide_eq_true (by kernel_rfl)) k1_ bel lt1) trodAll_mk0)), rfl, bel.frame _, fun h => by cases h⟩
theorem over : Rows.fnExactTableLeaveRow.holds Try.pinned (OpenSpec.ofChange Rows.fnExactTableLeaveSpec) :=
  OpenClaim.holds_of_wide 6 Try.f6 rfl rfl rfl rfl rfl rfl rfl ⟨rfl, rfl, rfl, rfl, rfl⟩ rfl rfl rfl rfl rfl (by kernel_rfl) Try.func6 (by kernel_rfl)
    (of_decide_eq_true (by kernel_rfl)) (by unfold Func.isWrapper; first | (rw [if_pos (by decide +kernel)]; kernel_rfl) | (rw [if_neg (by decide +kernel)]; exact ⟨rfl, rfl⟩))
    (fun os started H enc _ => lifted os started H enc)
theorem proved : Rows.FnExactTableLeaveSaid := over
#print axioms proved
end Go.Proofs.Ytekhlpkodgjdeaa.fnExactTableLeave
namespace Go.Proofs.Ytekhlpkodgjdeaa
/-- The row, under a short name, for the claim. -/
theorem fnExactTableLeave_holds : Rows.FnExactTableLeaveSaid := fnExactTableLeave.proved
end Go.Proofs.Ytekhlpkodgjdeaa
