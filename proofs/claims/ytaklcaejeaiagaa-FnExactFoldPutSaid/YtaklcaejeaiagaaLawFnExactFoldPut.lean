/- The law FnExactFoldPut holds of the given program, at every input: it returns true, and its arguments read afterwards as before. No condition. -/
import Derived.Test.YtaklcaejeaiagaaRows
import Derived.Test.YtaklcaejeaiagaaEWFnExactFoldPut
import Derived.WalkKit
import Derived.ProofKit
import Derived.OpenShut
import Derived.ShutString
import Derived.ChangeOld
import Derived.Below
import Derived.SizedLaws
namespace Go.Proofs.Ytaklcaejeaiagaa.fnExactFoldPut
open Go.ChangeShapes Go.WideShapes Go.ChangeAt Go.RowKit Go.Proofs.YtaklcaejeaiagaaE
open Go.ChangeMaps (open_string shut_string)
theorem flat3 : FlatT Try.prog 3 [.int .i64] := FlatT.int Try.underlying3 (by kernel_rfl)
theorem flat112 : FlatT Try.prog 112 [.int .i64, .int .i64] := FlatT.struct Try.underlying112 (by kernel_rfl) (FlatFs.cons (ks := [.int .i64]) (ks' := [.int .i64]) rfl flat3 (FlatFs.cons (ks := [.int .i64]) (ks' := []) rfl flat3 FlatFs.nil))
theorem opens64 : OpenT Try.prog 64 [.sl [.int .i64, .int .i64]] := OpenT.slice Try.underlying64 (by kernel_rfl) flat112 (by decide)
theorem own : ownKnob Try.prog.godebug = none := by kernel_rfl
theorem laidOut : laidOutB Try.prog = true := by kernel_rfl
set_option maxRecDepth 100000 in
theorem lifted (os : Os) (started : os.Started) (H : Type) (enc : TypeId × Value → H) :
    ReturnsInHanded {} Try.checked os 7 .any (Rows.fnExactFoldPutSpec.pre6 enc Try.prog Try.f7 Rows.fnExactFoldPutRow.domain false) (Rows.fnExactFoldPutSpec.post enc Try.prog Try.f7 false true false false) := by
  refine returnsInHanded_of_change_sized (C := Try.checked) own started (by kernel_rfl) Try.func7
    (ChangeSpec.witness6 (enc := enc) (C := Try.checked) false ⟨#[], #[.slice none 0 0, .slice none 0 0], []⟩ 8 (by kernel_rfl) (by kernel_rfl) (by kernel_rfl) (by kernel_rfl)) ?_
  intro W base args ds gs before hval0 hW hcnd hsz0 _
  have hval : ∀ (j : Nat) t v, Try.f7.params[j]? = some t → args[j]? = some v → Value.okWide Try.prog W .any base t v := hval0
  have hW' := hW
  obtain ⟨p, q, hA0, hV, rfl, hfz, hnd⟩ := hW
  have hA : DataW.TrodAll enc Try.prog W 0 (fun _ => true) true Try.f7.params.toList args.toList ds p := hA0
  rw [Try.params7] at hA hval
  obtain ⟨v0, vs0, d0, ds0, p0, q0, hargs, rfl, rfl, h0, r0⟩ := trodAll_cons hA
  obtain ⟨v1, vs1, d1, ds1, p1, q1, rfl, rfl, rfl, h1, r1⟩ := trodAll_cons r0
  obtain ⟨rfl, rfl, rfl⟩ := trodAll_nil r1
  obtain rfl : args = #[v0, v1] := by cases args; simp_all
  obtain ⟨rfl, rfl⟩ := trodVars_none hV
  have k0_ := h0
  have lt0 : ∀ x ∈ p0, x.block < W.heap.size := by obtain ⟨m, hm⟩ := k0_; exact DataW.trod_lt m _ _ _ hm
  obtain ⟨a0, len0, cap0, rfl⟩ := okWide_slice Try.underlying64 (hval 0 64 v0 rfl rfl)
  obtain ⟨fuel0, hf0⟩ := h0
  have fit0 : fitL W [.sl [.int .i64, .int .i64]] [.slice a0 len0 cap0] := opens64.op hf0
  obtain ⟨l1, m1, e1, g1, t1⟩ := fit0
  have z0 : m1 = [] := t1
  obtain ⟨y1, rfl, n1, f1, s1, hn1, ff1, hr1⟩ := g1
  rw [z0] at e1
  have ev0 := (List.cons.inj e1).1
  subst ev0
  have k1_ := h1
  have lt1 : ∀ x ∈ p1, x.block < W.heap.size := by obtain ⟨m, hm⟩ := k1_; exact DataW.trod_lt m _ _ _ hm
  obtain ⟨a1, len1, cap1, rfl⟩ := okWide_slice Try.underlying64 (hval 1 64 v1 rfl rfl)
  obtain ⟨fuel1, hf1⟩ := h1
  have fit1 : fitL W [.sl [.int .i64, .int .i64]] [.slice a1 len1 cap1] := opens64.op hf1
  obtain ⟨l2, m2, e2, g2, t2⟩ := fit1
  have z1 : m2 = [] := t2
  obtain ⟨y2, rfl, n2, f2, s2, hn2, ff2, hr2⟩ := g2
  rw [z1] at e2
  have ev1 := (List.cons.inj e2).1
  subst ev1
  have hrel : HRel (roM [(.arr 2 n1 (colsFrom f1 0 [.int .i64, .int .i64]), s1), (.arr 2 n2 (colsFrom f2 0 [.int .i64, .int .i64]), s2)]) (roH [(.arr 2 n1 (colsFrom f1 0 [.int .i64, .int .i64]), s1), (.arr 2 n2 (colsFrom f2 0 [.int .i64, .int .i64]), s2)]) W := HRel.ro (by
    intro b p hp
    match b, hp with
    | 0, hp => cases hp; exact (hr1 _ (roM [(.arr 2 n1 (colsFrom f1 0 [.int .i64, .int .i64]), s1), (.arr 2 n2 (colsFrom f2 0 [.int .i64, .int .i64]), s2)]) 0 rfl (by simp)).2.cols ff1
    | 1, hp => cases hp; exact (hr2 _ (roM [(.arr 2 n1 (colsFrom f1 0 [.int .i64, .int .i64]), s1), (.arr 2 n2 (colsFrom f2 0 [.int .i64, .int .i64]), s2)]) 1 rfl (by simp)).2.cols ff2
    | b + 2, hp => simp at hp)
  refine (Tri.calls (lawFnExactFoldPut n1 hn1 (icol f1 0) (icol f1 1) (fun i hi => col_wf (ff1 i hi) (j := 0) rfl) (fun i hi => col_wf (ff1 i hi) (j := 1) rfl) n2 hn2 (icol f2 0) (icol f2 1) (fun i hi => col_wf (ff2 i hi) (j := 0) rfl) (fun i hi => col_wf (ff2 i hi) (j := 1) rfl)) rfl hrel (by exact ⟨(hr1 _ _ 0 rfl (by simp)).1, (hr2 _ _ 1 rfl (by simp)).1, trivial⟩)).mono fun e W' he => ?_
  obtain ⟨rfl, bel⟩ := he
  exact ⟨_, rfl, _, _, _, [], _, [], hW', trodAll_mk1 (shut_bool Try.underlying4 _), (trodAll_cons_mk (Below.trod laidOut (by kernel_rfl) (of_decide_eq_true (by kernel_rfl)) k0_ bel lt0) (trodAll_cons_mk (Below.trod laidOut (by kernel_rfl) (of_decide_eq_true (by kernel_rfl)) k1_ bel lt1) trodAll_mk0)), rfl, bel.frame _, fun h => by cases h⟩
theorem over : Rows.fnExactFoldPutRow.holds Try.pinned (OpenSpec.ofChange Rows.fnExactFoldPutSpec) :=
  OpenClaim.holds_of_wide 7 Try.f7 rfl rfl rfl rfl rfl rfl rfl ⟨rfl, rfl, rfl, rfl, rfl⟩ rfl rfl rfl rfl rfl (by kernel_rfl) Try.func7 (by kernel_rfl)
    (of_decide_eq_true (by kernel_rfl)) (by unfold Func.isWrapper; first | (rw [if_pos (by decide +kernel)]; kernel_rfl) | (rw [if_neg (by decide +kernel)]; exact ⟨rfl, rfl⟩))
    (fun os started H enc _ => lifted os started H enc)
theorem proved : Rows.FnExactFoldPutSaid := over
#print axioms proved
end Go.Proofs.Ytaklcaejeaiagaa.fnExactFoldPut
namespace Go.Proofs.Ytaklcaejeaiagaa
/-- The row, under a short name, for the claim. -/
theorem fnExactFoldPut_holds : Rows.FnExactFoldPutSaid := fnExactFoldPut.proved
end Go.Proofs.Ytaklcaejeaiagaa
