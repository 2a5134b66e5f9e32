/- The law FnTableSplit holds of the given program, at every input: it returns true, and its arguments read afterwards as before. No condition. -/
import Derived.Test.YtaklcaejeaiagaaRows
import Derived.Test.YtaklcaejeaiagaaEWFnTableSplit
import Derived.WalkKit
import Derived.ProofKit
import Derived.OpenShut
import Derived.ShutString
import Derived.ChangeOld
import Derived.Below
import Derived.SizedLaws
namespace Go.Proofs.Ytaklcaejeaiagaa.fnTableSplit
open Go.ChangeShapes Go.WideShapes Go.ChangeAt Go.RowKit Go.Proofs.YtaklcaejeaiagaaE
open Go.ChangeMaps (open_string shut_string)
theorem flat5 : FlatT Try.prog 5 [.int .u8] := FlatT.int Try.underlying5 (by kernel_rfl)
theorem opens35 : OpenT Try.prog 35 [.sl [.int .u8]] := OpenT.slice Try.underlying35 (by kernel_rfl) flat5 (by decide)
theorem own : ownKnob Try.prog.godebug = none := by kernel_rfl
theorem laidOut : laidOutB Try.prog = true := by kernel_rfl
set_option maxRecDepth 100000 in
theorem lifted (os : Os) (started : os.Started) (H : Type) (enc : TypeId × Value → H) :
    ReturnsInHanded {} Try.checked os 4 .any (Rows.fnTableSplitSpec.pre6 enc Try.prog Try.f4 Rows.fnTableSplitRow.domain false) (Rows.fnTableSplitSpec.post enc Try.prog Try.f4 false true false false) := by
  refine returnsInHanded_of_change_sized (C := Try.checked) own started (by kernel_rfl) Try.func4
    (ChangeSpec.witness6 (enc := enc) (C := Try.checked) false ⟨#[], #[.slice none 0 0], []⟩ 8 (by kernel_rfl) (by kernel_rfl) (by kernel_rfl) (by kernel_rfl)) ?_
  intro W base args ds gs before hval0 hW hcnd hsz0 _
  have hval : ∀ (j : Nat) t v, Try.f4.params[j]? = some t → args[j]? = some v → Value.okWide Try.prog W .any base t v := hval0
  have hW' := hW
  obtain ⟨p, q, hA0, hV, rfl, hfz, hnd⟩ := hW
  have hA : DataW.TrodAll enc Try.prog W 0 (fun _ => true) true Try.f4.params.toList args.toList ds p := hA0
  rw [Try.params4] at hA hval
  obtain ⟨v0, vs0, d0, ds0, p0, q0, hargs, rfl, rfl, h0, r0⟩ := trodAll_cons hA
  obtain ⟨rfl, rfl, rfl⟩ := trodAll_nil r0
  obtain rfl : args = #[v0] := by cases args; simp_all
  obtain ⟨rfl, rfl⟩ := trodVars_none hV
  have k0_ := h0
  have lt0 : ∀ x ∈ p0, x.block < W.heap.size := by obtain ⟨m, hm⟩ := k0_; exact DataW.trod_lt m _ _ _ hm
  obtain ⟨a0, len0, cap0, rfl⟩ := okWide_slice Try.underlying35 (hval 0 35 v0 rfl rfl)
  obtain ⟨fuel0, hf0⟩ := h0
  have fit0 : fitL W [.sl [.int .u8]] [.slice a0 len0 cap0] := opens35.op hf0
  obtain ⟨l1, m1, e1, g1, t1⟩ := fit0
  have z0 : m1 = [] := t1
  obtain ⟨y1, rfl, n1, f1, s1, hn1, ff1, hr1⟩ := g1
  rw [z0] at e1
  have ev0 := (List.cons.inj e1).1
  subst ev0
  have hrel : HRel (roM [(.arr 1 n1 (colsFrom f1 0 [.int .u8]), s1)]) (roH [(.arr 1 n1 (colsFrom f1 0 [.int .u8]), s1)]) W := HRel.ro (by
    intro b p hp
    match b, hp with
    | 0, hp => cases hp; exact (hr1 _ (roM [(.arr 1 n1 (colsFrom f1 0 [.int .u8]), s1)]) 0 rfl (by simp)).2.cols ff1
    | b + 1, hp => simp at hp)
  refine (Tri.calls (lawFnTableSplit n1 hn1 (icol f1 0) (fun i hi => col_wf (ff1 i hi) (j := 0) rfl)) rfl hrel (by exact ⟨(hr1 _ _ 0 rfl (by simp)).1, trivial⟩)).mono fun e W' he => ?_
  obtain ⟨rfl, bel⟩ := he
  exact ⟨_, rfl, _, _, _, [], _, [], hW', trodAll_mk1 (shut_bool Try.underlying4 _), (trodAll_cons_mk (Below.trod laidOut (by kernel_rfl) (of_decide_eq_true (by kernel_rfl)) k0_ bel lt0) trodAll_mk0), rfl, bel.frame _, fun h => by cases h⟩
theorem over : Rows.fnTableSplitRow.holds Try.pinned (OpenSpec.ofChange Rows.fnTableSplitSpec) :=
  OpenClaim.holds_of_wide 4 Try.f4 rfl rfl rfl rfl rfl rfl rfl ⟨rfl, rfl, rfl, rfl, rfl⟩ rfl rfl rfl rfl rfl (by kernel_rfl) Try.func4 (by kernel_rfl)
    (of_decide_eq_true (by kernel_rfl)) (by unfold Func.isWrapper; first | (rw [if_pos (by decide +kernel)]; kernel_rfl) | (rw [if_neg (by decide +kernel)]; exact ⟨rfl, rfl⟩))
    (fun os started H enc _ => lifted os started H enc)
theorem proved : Rows.FnTableSplitSaid := over
#print axioms proved
end Go.Proofs.Ytaklcaejeaiagaa.fnTableSplit
namespace Go.Proofs.Ytaklcaejeaiagaa
/-- The row, under a short name, for the claim. -/
theorem fnTableSplit_holds : Rows.FnTableSplitSaid := fnTableSplit.proved
end Go.Proofs.Ytaklcaejeaiagaa
