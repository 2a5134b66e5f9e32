/- The law FnExactTableSplit holds of the given program, at every input: it returns true, and its arguments read afterwards as before. No condition. -/
import Derived.Test.YtaklcaejeaiagaaRows
import Derived.Test.YtaklcaejeaiagaaEWFnExactTableSplit
import Derived.WalkKit
import Derived.ProofKit
import Derived.OpenShut
import Derived.ShutString
import Derived.ChangeOld
import Derived.Below
import Derived.SizedLaws
namespace Go.Proofs.Ytaklcaejeaiagaa.fnExactTableSplit
open Go.ChangeShapes Go.WideShapes Go.ChangeAt Go.RowKit Go.Proofs.YtaklcaejeaiagaaE
open Go.ChangeMaps (open_string shut_string)
theorem flat3 : FlatT Try.prog 3 [.int .i64] := FlatT.int Try.underlying3 (by kernel_rfl)
theorem opens3 : OpenT Try.prog 3 [.flat [.int .i64]] := OpenT.flat flat3
theorem flat117 : FlatT Try.prog 117 [.int .i64, .int .i64, .int .i64] := FlatT.struct Try.underlying117 (by kernel_rfl) (FlatFs.cons (ks := [.int .i64]) (ks' := [.int .i64, .int .i64]) rfl flat3 (FlatFs.cons (ks := [.int .i64]) (ks' := [.int .i64]) rfl flat3 (FlatFs.cons (ks := [.int .i64]) (ks' := []) rfl flat3 FlatFs.nil)))
theorem opens22 : OpenT Try.prog 22 [.sl [.int .i64, .int .i64, .int .i64]] := OpenT.slice Try.underlying22 (by kernel_rfl) flat117 (by decide)
theorem opens24 : OpenT Try.prog 24 [.flat [.int .i64], .flat [.int .i64], .sl [.int .i64, .int .i64, .int .i64]] := OpenT.struct Try.underlying24 (by kernel_rfl) (OpenFs.cons (Ts := [.flat [.int .i64]]) (Us := [.flat [.int .i64], .sl [.int .i64, .int .i64, .int .i64]]) rfl opens3 (OpenFs.cons (Ts := [.flat [.int .i64]]) (Us := [.sl [.int .i64, .int .i64, .int .i64]]) rfl opens3 (OpenFs.cons (Ts := [.sl [.int .i64, .int .i64, .int .i64]]) (Us := []) rfl opens22 OpenFs.nil)))
theorem own : ownKnob Try.prog.godebug = none := by kernel_rfl
theorem laidOut : laidOutB Try.prog = true := by kernel_rfl
set_option maxRecDepth 100000 in
theorem lifted (os : Os) (started : os.Started) (H : Type) (enc : TypeId × Value → H) :
    ReturnsInHanded {} Try.checked os 3 .any (Rows.fnExactTableSplitSpec.pre6 enc Try.prog Try.f3 Rows.fnExactTableSplitRow.domain false) (Rows.fnExactTableSplitSpec.post enc Try.prog Try.f3 false true false false) := by
  refine returnsInHanded_of_change_sized (C := Try.checked) own started (by kernel_rfl) Try.func3
    (ChangeSpec.witness6 (enc := enc) (C := Try.checked) false ⟨#[], #[.agg #[.int .i64 0, .int .i64 0, .slice none 0 0], .int .i64 0], []⟩ 8 (by kernel_rfl) (by kernel_rfl) (by kernel_rfl) (by kernel_rfl)) ?_
  intro W base args ds gs before hval0 hW hcnd hsz0 _
  have hval : ∀ (j : Nat) t v, Try.f3.params[j]? = some t → args[j]? = some v → Value.okWide Try.prog W .any base t v := hval0
  have hW' := hW
  obtain ⟨p, q, hA0, hV, rfl, hfz, hnd⟩ := hW
  have hA : DataW.TrodAll enc Try.prog W 0 (fun _ => true) true Try.f3.params.toList args.toList ds p := hA0
  rw [Try.params3] at hA hval
  obtain ⟨v0, vs0, d0, ds0, p0, q0, hargs, rfl, rfl, h0, r0⟩ := trodAll_cons hA
  obtain ⟨v1, vs1, d1, ds1, p1, q1, rfl, rfl, rfl, h1, r1⟩ := trodAll_cons r0
  obtain ⟨rfl, rfl, rfl⟩ := trodAll_nil r1
  obtain rfl : args = #[v0, v1] := by cases args; simp_all
  obtain ⟨rfl, rfl⟩ := trodVars_none hV
  have k0_ := h0
  have lt0 : ∀ x ∈ p0, x.block < W.heap.size := by obtain ⟨m, hm⟩ := k0_; exact DataW.trod_lt m _ _ _ hm
  obtain ⟨cs0, rfl, hcs0⟩ := okWide_struct Try.underlying24 (hval 0 24 v0 rfl rfl)
  obtain ⟨fuel0, hf0⟩ := h0
  have fit0 : fitL W [.flat [.int .i64], .flat [.int .i64], .sl [.int .i64, .int .i64, .int .i64]] cs0.toList := opens24.op hf0
  obtain ⟨l1, m1, e1, g1, t1⟩ := fit0
  obtain ⟨l2, m2, e2, g2, t2⟩ := t1
  obtain ⟨l3, m3, e3, g3, t3⟩ := t2
  have z0 : m3 = [] := t3
  obtain ⟨x1, rfl, wx1⟩ := Flat.int g1
  obtain ⟨x2, rfl, wx2⟩ := Flat.int g2
  obtain ⟨y3, rfl, n3, f3, s3, hn3, ff3, hr3⟩ := g3
  obtain rfl : cs0 = #[.int .i64 x1, .int .i64 x2, y3] := by rw [← Array.toArray_toList (xs := cs0), e1, e2, e3, z0]; rfl
  have k1_ := h1
  have lt1 : ∀ x ∈ p1, x.block < W.heap.size := by obtain ⟨m, hm⟩ := k1_; exact DataW.trod_lt m _ _ _ hm
  obtain ⟨x1_, rfl⟩ := okWide_int Try.underlying3 (hval 1 3 v1 rfl rfl)
  obtain ⟨fuel1, hf1⟩ := h1
  have fit1 : fitL W [.flat [.int .i64]] [.int .i64 x1_] := opens3.op hf1
  obtain ⟨l4, m4, e4, g4, t4⟩ := fit1
  have z1 : m4 = [] := t4
  obtain ⟨x4, rfl, wx4⟩ := Flat.int g4
  rw [z1] at e4
  have ev1 := (List.cons.inj e4).1
  cases ev1
  have hrel : HRel (roM [(.arr 3 n3 (colsFrom f3 0 [.int .i64, .int .i64, .int .i64]), s3)]) (roH [(.arr 3 n3 (colsFrom f3 0 [.int .i64, .int .i64, .int .i64]), s3)]) W := HRel.ro (by
    intro b p hp
    match b, hp with
    | 0, hp => cases hp; exact (hr3 _ (roM [(.arr 3 n3 (colsFrom f3 0 [.int .i64, .int .i64, .int .i64]), s3)]) 0 rfl (by simp)).2.cols ff3
    | b + 1, hp => simp at hp)
  refine (Tri.calls (lawFnExactTableSplit x1 wx1 x2 wx2 n3 hn3 (icol f3 0) (icol f3 1) (icol f3 2) (fun i hi => col_wf (ff3 i hi) (j := 0) rfl) (fun i hi => col_wf (ff3 i hi) (j := 1) rfl) (fun i hi => col_wf (ff3 i hi) (j := 2) rfl) x1_ wx4) rfl hrel (by exact ⟨⟨_, rfl, ⟨rfl, rfl, (hr3 _ _ 0 rfl (by simp)).1, trivial⟩⟩, rfl, trivial⟩)).mono fun e W' he => ?_
  obtain ⟨rfl, bel⟩ := he
  exact ⟨_, rfl, _, _, _, [], _, [], hW', trodAll_mk1 (shut_bool Try.underlying4 _), (trodAll_cons_mk (Below.trod laidOut (by kernel_rfl) (of_decide_eq_true (by kernel_rfl)) k0_ bel lt0) (trodAll_cons_mk (Below.trod laidOut (by kernel_rfl) (of_decide_eq_true (by kernel_rfl)) k1_ bel lt1) trodAll_mk0)), rfl, bel.frame _, fun h => by cases h⟩
theorem over : Rows.fnExactTableSplitRow.holds Try.pinned (OpenSpec.ofChange Rows.fnExactTableSplitSpec) :=
  OpenClaim.holds_of_wide 3 Try.f3 rfl rfl rfl rfl rfl rfl rfl ⟨rfl, rfl, rfl, rfl, rfl⟩ rfl rfl rfl rfl rfl (by kernel_rfl) Try.func3 (by kernel_rfl)
    (of_decide_eq_true (by kernel_rfl)) (by unfold Func.isWrapper; first | (rw [if_pos (by decide +kernel)]; kernel_rfl) | (rw [if_neg (by decide +kernel)]; exact ⟨rfl, rfl⟩))
    (fun os started H enc _ => lifted os started H enc)
theorem proved : Rows.FnExactTableSplitSaid := over
#print axioms proved
end Go.Proofs.Ytaklcaejeaiagaa.fnExactTableSplit
namespace Go.Proofs.Ytaklcaejeaiagaa
/-- The row, under a short name, for the claim. -/
theorem fnExactTableSplit_holds : Rows.FnExactTableSplitSaid := fnExactTableSplit.proved
end Go.Proofs.Ytaklcaejeaiagaa
