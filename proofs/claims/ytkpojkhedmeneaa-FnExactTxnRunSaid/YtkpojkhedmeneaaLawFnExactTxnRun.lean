/- The law FnExactTxnRun holds of the given program, at every input: it returns true, and its arguments read afterwards as before. No condition. -/
import Derived.Test.YtkpojkhedmeneaaRows
import Derived.Test.YtkpojkhedmeneaaEWTxnRun
import Derived.WalkKit
import Derived.ProofKit
import Derived.OpenShut
import Derived.ShutString
import Derived.ChangeOld
import Derived.Below
import Derived.SizedLaws
namespace Go.Proofs.Ytkpojkhedmeneaa.fnExactTxnRun
open Go.ChangeShapes Go.WideShapes Go.ChangeAt Go.RowKit Go.Proofs.YtkpojkhedmeneaaE
open Go.ChangeMaps (open_string shut_string)
theorem flat3 : FlatT Try.prog 3 [.int .i64] := FlatT.int Try.underlying3 (by kernel_rfl)
theorem flat102 : FlatT Try.prog 102 [.int .i64, .int .i64, .int .i64] := FlatT.struct Try.underlying102 (by kernel_rfl) (FlatFs.cons (ks := [.int .i64]) (ks' := [.int .i64, .int .i64]) rfl flat3 (FlatFs.cons (ks := [.int .i64]) (ks' := [.int .i64]) rfl flat3 (FlatFs.cons (ks := [.int .i64]) (ks' := []) rfl flat3 FlatFs.nil)))
theorem opens22 : OpenT Try.prog 22 [.sl [.int .i64, .int .i64, .int .i64]] := OpenT.slice Try.underlying22 (by kernel_rfl) flat102 (by decide)
theorem flat104 : FlatT Try.prog 104 [.int .i64, .int .i64, .int .i64] := FlatT.struct Try.underlying104 (by kernel_rfl) (FlatFs.cons (ks := [.int .i64]) (ks' := [.int .i64, .int .i64]) rfl flat3 (FlatFs.cons (ks := [.int .i64]) (ks' := [.int .i64]) rfl flat3 (FlatFs.cons (ks := [.int .i64]) (ks' := []) rfl flat3 FlatFs.nil)))
theorem opens23 : OpenT Try.prog 23 [.sl [.int .i64, .int .i64, .int .i64]] := OpenT.slice Try.underlying23 (by kernel_rfl) flat104 (by decide)
theorem opens24 : OpenT Try.prog 24 [.sl [.int .i64]] := OpenT.slice Try.underlying24 (by kernel_rfl) flat3 (by decide)
theorem opens26 : OpenT Try.prog 26 [.sl [.int .i64, .int .i64, .int .i64], .sl [.int .i64, .int .i64, .int .i64], .sl [.int .i64]] := OpenT.struct Try.underlying26 (by kernel_rfl) (OpenFs.cons (Ts := [.sl [.int .i64, .int .i64, .int .i64]]) (Us := [.sl [.int .i64, .int .i64, .int .i64], .sl [.int .i64]]) rfl opens22 (OpenFs.cons (Ts := [.sl [.int .i64, .int .i64, .int .i64]]) (Us := [.sl [.int .i64]]) rfl opens23 (OpenFs.cons (Ts := [.sl [.int .i64]]) (Us := []) rfl opens24 OpenFs.nil)))
theorem flat85 : FlatT Try.prog 85 [.int .i64, .int .i64] := FlatT.struct Try.underlying85 (by kernel_rfl) (FlatFs.cons (ks := [.int .i64]) (ks' := [.int .i64]) rfl flat3 (FlatFs.cons (ks := [.int .i64]) (ks' := []) rfl flat3 FlatFs.nil))
theorem opens36 : OpenT Try.prog 36 [.sl [.int .i64, .int .i64]] := OpenT.slice Try.underlying36 (by kernel_rfl) flat85 (by decide)
theorem own : ownKnob Try.prog.godebug = none := by kernel_rfl
theorem laidOut : laidOutB Try.prog = true := by kernel_rfl
set_option maxRecDepth 100000 in
theorem lifted (os : Os) (started : os.Started) (H : Type) (enc : TypeId × Value → H) :
    ReturnsInHanded {} Try.checked os 4 .any (Rows.fnExactTxnRunSpec.pre6 enc Try.prog Try.f4 Rows.fnExactTxnRunRow.domain false) (Rows.fnExactTxnRunSpec.post enc Try.prog Try.f4 false true false false) := by
  refine returnsInHanded_of_change_sized (C := Try.checked) own started (by kernel_rfl) Try.func4
    (ChangeSpec.witness6 (enc := enc) (C := Try.checked) false ⟨#[], #[.agg #[.slice none 0 0, .slice none 0 0, .slice none 0 0], .slice none 0 0], []⟩ 8 (by kernel_rfl) (by kernel_rfl) (by kernel_rfl) (by kernel_rfl)) ?_
  intro W base args ds gs before hval0 hW hcnd hsz0 _
  have hval : ∀ (j : Nat) t v, Try.f4.params[j]? = some t → args[j]? = some v → Value.okWide Try.prog W .any base t v := hval0
  have hW' := hW
  obtain ⟨p, q, hA0, hV, rfl, hfz, hnd⟩ := hW
  have hA : DataW.TrodAll enc Try.prog W 0 (fun _ => true) true Try.f4.params.toList args.toList ds p := hA0
  rw [Try.params4] at hA hval
  obtain ⟨v0, vs0, d0, ds0, p0, q0, hargs, rfl, rfl, h0, r0⟩ := trodAll_cons hA
  obtain ⟨v1, vs1, d1, ds1, p1, q1, rfl, rfl, rfl, h1, r1⟩ := trodAll_cons r0
  obtain ⟨rfl, rfl, rfl⟩ := trodAll_nil r1
  obtain rfl : args = #[v0, v1] := by cases args; simp_all
  obtain ⟨rfl, rfl⟩ := trodVars_none hV
  have k0_ := h0
  have lt0 : ∀ x ∈ p0, x.block < W.heap.size := by obtain ⟨m, hm⟩ := k0_; exact DataW.trod_lt m _ _ _ hm
  obtain ⟨cs0, rfl, hcs0⟩ := okWide_struct Try.underlying26 (hval 0 26 v0 rfl rfl)
  obtain ⟨fuel0, hf0⟩ := h0
  have fit0 : fitL W [.sl [.int .i64, .int .i64, .int .i64], .sl [.int .i64, .int .i64, .int .i64], .sl [.int .i64]] cs0.toList := opens26.op hf0
  obtain ⟨l1, m1, e1, g1, t1⟩ := fit0
  obtain ⟨l2, m2, e2, g2, t2⟩ := t1
  obtain ⟨l3, m3, e3, g3, t3⟩ := t2
  have z0 : m3 = [] := t3
  obtain ⟨y1, rfl, n1, f1, s1, hn1, ff1, hr1⟩ := g1
  obtain ⟨y2, rfl, n2, f2, s2, hn2, ff2, hr2⟩ := g2
  obtain ⟨y3, rfl, n3, f3, s3, hn3, ff3, hr3⟩ := g3
  obtain rfl : cs0 = #[y1, y2, y3] := by rw [← Array.toArray_toList (xs := cs0), e1, e2, e3, z0]; rfl
  have k1_ := h1
  have lt1 : ∀ x ∈ p1, x.block < W.heap.size := by obtain ⟨m, hm⟩ := k1_; exact DataW.trod_lt m _ _ _ hm
  obtain ⟨a1, len1, cap1, rfl⟩ := okWide_slice Try.underlying36 (hval 1 36 v1 rfl rfl)
  obtain ⟨fuel1, hf1⟩ := h1
  have fit1 : fitL W [.sl [.int .i64, .int .i64]] [.slice a1 len1 cap1] := opens36.op hf1
  obtain ⟨l4, m4, e4, g4, t4⟩ := fit1
  have z1 : m4 = [] := t4
  obtain ⟨y4, rfl, n4, f4, s4, hn4, ff4, hr4⟩ := g4
  rw [z1] at e4
  have ev1 := (List.cons.inj e4).1
  subst ev1
  have hrel : HRel (roM [(.arr 3 n1 (colsFrom f1 0 [.int .i64, .int .i64, .int .i64]), s1), (.arr 3 n2 (colsFrom f2 0 [.int .i64, .int .i64, .int .i64]), s2), (.arr 1 n3 (colsFrom f3 0 [.int .i64]), s3), (.arr 2 n4 (colsFrom f4 0 [.int .i64, .int .i64]), s4)]) (roH [(.arr 3 n1 (colsFrom f1 0 [.int .i64, .int .i64, .int .i64]), s1), (.arr 3 n2 (colsFrom f2 0 [.int .i64, .int .i64, .int .i64]), s2), (.arr 1 n3 (colsFrom f3 0 [.int .i64]), s3), (.arr 2 n4 (colsFrom f4 0 [.int .i64, .int .i64]), s4)]) W := HRel.ro (by
    intro b p hp
    match b, hp with
    | 0, hp => cases hp; exact (hr1 _ (roM [(.arr 3 n1 (colsFrom f1 0 [.int .i64, .int .i64, .int .i64]), s1), (.arr 3 n2 (colsFrom f2 0 [.int .i64, .int .i64, .int .i64]), s2), (.arr 1 n3 (colsFrom f3 0 [.int .i64]), s3), (.arr 2 n4 (colsFrom f4 0 [.int .i64, .int .i64]), s4)]) 0 rfl (by simp)).2.cols ff1
    | 1, hp => cases hp; exact (hr2 _ (roM [(.arr 3 n1 (colsFrom f1 0 [.int .i64, .int .i64, .int .i64]), s1), (.arr 3 n2 (colsFrom f2 0 [.int .i64, .int .i64, .int .i64]), s2), (.arr 1 n3 (colsFrom f3 0 [.int .i64]), s3), (.arr 2 n4 (colsFrom f4 0 [.int .i64, .int .i64]), s4)]) 1 rfl (by simp)).2.cols ff2
    | 2, hp => cases hp; exact (hr3 _ (roM [(.arr 3 n1 (colsFrom f1 0 [.int .i64, .int .i64, .int .i64]), s1), (.arr 3 n2 (colsFrom f2 0 [.int .i64, .int .i64, .int .i64]), s2), (.arr 1 n3 (colsFrom f3 0 [.int .i64]), s3), (.arr 2 n4 (colsFrom f4 0 [.int .i64, .int .i64]), s4)]) 2 rfl (by simp)).2.cols ff3
    | 3, hp => cases hp; exact (hr4 _ (roM [(.arr 3 n1 (colsFrom f1 0 [.int .i64, .int .i64, .int .i64]), s1), (.arr 3 n2 (colsFrom f2 0 [.int .i64, .int .i64, .int .i64]), s2), (.arr 1 n3 (colsFrom f3 0 [.int .i64]), s3), (.arr 2 n4 (colsFrom f4 0 [.int .i64, .int .i64]), s4)]) 3 rfl (by simp)).2.cols ff4
    | b + 4, hp => simp at hp)
  refine (Tri.calls (lawFnExactTxnRun n1 hn1 (icol f1 0) (icol f1 1) (icol f1 2) (fun i hi => col_wf (ff1 i hi) (j := 0) rfl) (fun i hi => col_wf (ff1 i hi) (j := 1) rfl) (fun i hi => col_wf (ff1 i hi) (j := 2) rfl) n2 hn2 (icol f2 0) (icol f2 1) (icol f2 2) (fun i hi => col_wf (ff2 i hi) (j := 0) rfl) (fun i hi => col_wf (ff2 i hi) (j := 1) rfl) (fun i hi => col_wf (ff2 i hi) (j := 2) rfl) n3 hn3 (icol f3 0) (fun i hi => col_wf (ff3 i hi) (j := 0) rfl) n4 hn4 (icol f4 0) (icol f4 1) (fun i hi => col_wf (ff4 i hi) (j := 0) rfl) (fun i hi => col_wf (ff4 i hi) (j := 1) rfl)) rfl hrel (by exact ⟨⟨_, rfl, ⟨(hr1 _ _ 0 rfl (by simp)).1, (hr2 _ _ 1 rfl (by simp)).1, (hr3 _ _ 2 rfl (by simp)).1, trivial⟩⟩, (hr4 _ _ 3 rfl (by simp)).1, trivial⟩)).mono fun e W' he => ?_
  obtain ⟨rfl, bel⟩ := he
  exact ⟨_, rfl, _, _, _, [], _, [], hW', trodAll_mk1 (shut_bool Try.underlying4 _), (trodAll_cons_mk (Below.trod laidOut (by kernel_rfl) (of_decide_eq_true (by kernel_rfl)) k0_ bel lt0) (trodAll_cons_mk (Below.trod laidOut (by kernel_rfl) (of_decide_eq_true (by kernel_rfl)) k1_ bel lt1) trodAll_mk0)), rfl, bel.frame _, fun h => by cases h⟩
theorem over : Rows.fnExactTxnRunRow.holds Try.pinned (OpenSpec.ofChange Rows.fnExactTxnRunSpec) :=
  OpenClaim.holds_of_wide 4 Try.f4 rfl rfl rfl rfl rfl rfl rfl ⟨rfl, rfl, rfl, rfl, rfl⟩ rfl rfl rfl rfl rfl (by kernel_rfl) Try.func4 (by kernel_rfl)
    (of_decide_eq_true (by kernel_rfl)) (by unfold Func.isWrapper; first | (rw [if_pos (by decide +kernel)]; kernel_rfl) | (rw [if_neg (by decide +kernel)]; exact ⟨rfl, rfl⟩))
    (fun os started H enc _ => lifted os started H enc)
theorem proved : Rows.FnExactTxnRunSaid := over
#print axioms proved
end Go.Proofs.Ytkpojkhedmeneaa.fnExactTxnRun
namespace Go.Proofs.Ytkpojkhedmeneaa
/-- The row, under a short name, for the claim. -/
theorem fnExactTxnRun_holds : Rows.FnExactTxnRunSaid := fnExactTxnRun.proved
end Go.Proofs.Ytkpojkhedmeneaa
