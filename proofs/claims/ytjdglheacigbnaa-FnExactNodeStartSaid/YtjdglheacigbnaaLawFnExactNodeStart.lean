/- The law FnExactNodeStart holds of the given program, at every input: it returns true, and its arguments read afterwards as before. No condition. -/
import Derived.Test.YtjdglheacigbnaaRows
import Derived.Test.YtjdglheacigbnaaEWFnExactNodeStart
import Derived.WalkKit
import Derived.ProofKit
import Derived.OpenShut
import Derived.ShutString
import Derived.ChangeOld
import Derived.Below
import Derived.SizedLaws
namespace Go.Proofs.Ytjdglheacigbnaa.fnExactNodeStart
open Go.ChangeShapes Go.WideShapes Go.ChangeAt Go.RowKit Go.Proofs.YtjdglheacigbnaaE
open Go.ChangeMaps (open_string shut_string)
theorem flat3 : FlatT Try.prog 3 [.int .i64] := FlatT.int Try.underlying3 (by kernel_rfl)
theorem opens3 : OpenT Try.prog 3 [.flat [.int .i64]] := OpenT.flat flat3
theorem own : ownKnob Try.prog.godebug = none := by kernel_rfl
theorem laidOut : laidOutB Try.prog = true := by kernel_rfl
set_option maxRecDepth 100000 in
theorem lifted (os : Os) (started : os.Started) (H : Type) (enc : TypeId × Value → H) :
    ReturnsInHanded {} Try.checked os 3 .any (Rows.fnExactNodeStartSpec.pre6 enc Try.prog Try.f3 Rows.fnExactNodeStartRow.domain false) (Rows.fnExactNodeStartSpec.post enc Try.prog Try.f3 false true false false) := by
  refine returnsInHanded_of_change_sized (C := Try.checked) own started (by kernel_rfl) Try.func3
    (ChangeSpec.witness6 (enc := enc) (C := Try.checked) false ⟨#[], #[.int .i64 0], []⟩ 8 (by kernel_rfl) (by kernel_rfl) (by kernel_rfl) (by kernel_rfl)) ?_
  intro W base args ds gs before hval0 hW hcnd hsz0 _
  have hval : ∀ (j : Nat) t v, Try.f3.params[j]? = some t → args[j]? = some v → Value.okWide Try.prog W .any base t v := hval0
  have hW' := hW
  obtain ⟨p, q, hA0, hV, rfl, hfz, hnd⟩ := hW
  have hA : DataW.TrodAll enc Try.prog W 0 (fun _ => true) true Try.f3.params.toList args.toList ds p := hA0
  rw [Try.params3] at hA hval
  obtain ⟨v0, vs0, d0, ds0, p0, q0, hargs, rfl, rfl, h0, r0⟩ := trodAll_cons hA
  obtain ⟨rfl, rfl, rfl⟩ := trodAll_nil r0
  obtain rfl : args = #[v0] := by cases args; simp_all
  obtain ⟨rfl, rfl⟩ := trodVars_none hV
  have k0_ := h0
  have lt0 : ∀ x ∈ p0, x.block < W.heap.size := by obtain ⟨m, hm⟩ := k0_; exact DataW.trod_lt m _ _ _ hm
  obtain ⟨x0_, rfl⟩ := okWide_int Try.underlying3 (hval 0 3 v0 rfl rfl)
  obtain ⟨fuel0, hf0⟩ := h0
  have fit0 : fitL W [.flat [.int .i64]] [.int .i64 x0_] := opens3.op hf0
  obtain ⟨l1, m1, e1, g1, t1⟩ := fit0
  have z0 : m1 = [] := t1
  obtain ⟨x1, rfl, wx1⟩ := Flat.int g1
  rw [z0] at e1
  have ev0 := (List.cons.inj e1).1
  cases ev0
  have hrel : HRel (roM []) (roH []) W := HRel.ro (by
    intro b p hp
    match b, hp with
    | b + 0, hp => simp at hp)
  refine (Tri.calls (lawFnExactNodeStart x0_ wx1) rfl hrel (by exact ⟨rfl, trivial⟩)).mono fun e W' he => ?_
  obtain ⟨rfl, bel⟩ := he
  exact ⟨_, rfl, _, _, _, [], _, [], hW', trodAll_mk1 (shut_bool Try.underlying4 _), (trodAll_cons_mk (Below.trod laidOut (by kernel_rfl) (of_decide_eq_true (by kernel_rfl)) k0_ bel lt0) trodAll_mk0), rfl, bel.frame _, fun h => by cases h⟩
theorem over : Rows.fnExactNodeStartRow.holds Try.pinned (OpenSpec.ofChange Rows.fnExactNodeStartSpec) :=
  OpenClaim.holds_of_wide 3 Try.f3 rfl rfl rfl rfl rfl rfl rfl ⟨rfl, rfl, rfl, rfl, rfl⟩ rfl rfl rfl rfl rfl (by kernel_rfl) Try.func3 (by kernel_rfl)
    (of_decide_eq_true (by kernel_rfl)) (by unfold Func.isWrapper; first | (rw [if_pos (by decide +kernel)]; kernel_rfl) | (rw [if_neg (by decide +kernel)]; exact ⟨rfl, rfl⟩))
    (fun os started H enc _ => lifted os started H enc)
theorem proved : Rows.FnExactNodeStartSaid := over
#print axioms proved
end Go.Proofs.Ytjdglheacigbnaa.fnExactNodeStart
namespace Go.Proofs.Ytjdglheacigbnaa
/-- The row, under a short name, for the claim. -/
theorem fnExactNodeStart_holds : Rows.FnExactNodeStartSaid := fnExactNodeStart.proved
end Go.Proofs.Ytjdglheacigbnaa
