/- The law FnExactTxnAll holds of the given program, at every input: it returns true, and its arguments read afterwards as before. No condition. -/
import Derived.Test.YtaklcaejeaiagaaRows
import Derived.Test.YtaklcaejeaiagaaEWFnExactTxnAll
import Derived.WalkKit
import Derived.ProofKit
import Derived.OpenShut
import Derived.ShutString
import Derived.ChangeOld
import Derived.Below
import Derived.SizedLaws
namespace Go.Proofs.Ytaklcaejeaiagaa.fnExactTxnAll
open Go.ChangeShapes Go.WideShapes Go.ChangeAt Go.RowKit Go.Proofs.YtaklcaejeaiagaaE
open Go.ChangeMaps (open_string shut_string)
theorem flat3 : FlatT Try.prog 3 [.int .i64] := FlatT.int Try.underlying3 (by kernel_rfl)
theorem flat127 : FlatT Try.prog 127 [.int .i64, .int .i64, .int .i64] := FlatT.struct Try.underlying127 (by kernel_rfl) (FlatFs.cons (ks := [.int .i64]) (ks' := [.int .i64, .int .i64]) rfl flat3 (FlatFs.cons (ks := [.int .i64]) (ks' := [.int .i64]) rfl flat3 (FlatFs.cons (ks := [.int .i64]) (ks' := []) rfl flat3 FlatFs.nil)))
theorem opens39 : OpenT Try.prog 39 [.sl [.int .i64, .int .i64, .int .i64]] := OpenT.slice Try.underlying39 (by kernel_rfl) flat127 (by decide)
theorem flat129 : FlatT Try.prog 129 [.int .i64, .int .i64, .int .i64] := FlatT.struct Try.underlying129 (by kernel_rfl) (FlatFs.cons (ks := [.int .i64]) (ks' := [.int .i64, .int .i64]) rfl flat3 (FlatFs.cons (ks := [.int .i64]) (ks' := [.int .i64]) rfl flat3 (FlatFs.cons (ks := [.int .i64]) (ks' := []) rfl flat3 FlatFs.nil)))
theorem opens40 : OpenT Try.prog 40 [.sl [.int .i64, .int .i64, .int .i64]] := OpenT.slice Try.underlying40 (by kernel_rfl) flat129 (by decide)
theorem opens41 : OpenT Try.prog 41 [.sl [.int .i64]] := OpenT.slice Try.underlying41 (by kernel_rfl) flat3 (by decide)
theorem opens43 : OpenT Try.prog 43 [.sl [.int .i64, .int .i64, .int .i64], .sl [.int .i64, .int .i64, .int .i64], .sl [.int .i64]] := OpenT.struct Try.underlying43 (by kernel_rfl) (OpenFs.cons (Ts := [.sl [.int .i64, .int .i64, .int .i64]]) (Us := [.sl [.int .i64, .int .i64, .int .i64], .sl [.int .i64]]) rfl opens39 (OpenFs.cons (Ts := [.sl [.int .i64, .int .i64, .int .i64]]) (Us := [.sl [.int .i64]]) rfl opens40 (OpenFs.cons (Ts := [.sl [.int .i64]]) (Us := []) rfl opens41 OpenFs.nil)))
theorem own : ownKnob Try.prog.godebug = none := by kernel_rfl
theorem laidOut : laidOutB Try.prog = true := by kernel_rfl
set_option maxRecDepth 100000 in
theorem lifted (os : Os) (started : os.Started) (H : Type) (enc : TypeId × Value → H) :
    ReturnsInHanded {} Try.checked os 5 .any (Rows.fnExactTxnAllSpec.pre6 enc Try.prog Try.f5 Rows.fnExactTxnAllRow.domain false) (Rows.fnExactTxnAllSpec.post enc Try.prog Try.f5 false true false false) := by
  refine returnsInHanded_of_change_sized (C := Try.checked) own started (by kernel_rfl) Try.func5
    (ChangeSpec.witness6 (enc := enc) (C := Try.checked) false ⟨#[], #[.agg #[.slice none 0 0, .slice none 0 0, .slice none 0 0]], []⟩ 8 (by kernel_rfl) (by kernel_rfl) (by kernel_rfl) (by kernel_rfl)) ?_
  intro W base args ds gs before hval0 hW hcnd hsz0 _
  have hval : ∀ (j : Nat) t v, Try.f5.params[j]? = some t → args[j]? = some v → Value.okWide Try.prog W .any base t v := hval0
  have hW' := hW
  obtain ⟨p, q, hA0, hV, rfl, hfz, hnd⟩ := hW
  have hA : DataW.TrodAll enc Try.prog W 0 (fun _ => true) true Try.f5.params.toList args.toList ds p := hA0
  rw [Try.params5] at hA hval
  obtain ⟨v0, vs0, d0, ds0, p0, q0, hargs, rfl, rfl, h0, r0⟩ := trodAll_cons hA
  obtain ⟨rfl, rfl, rfl⟩ := trodAll_nil r0
  obtain rfl : args = #[v0] := by cases args; simp_all
  obtain ⟨rfl, rfl⟩ := trodVars_none hV
  have k0_ := h0
  have lt0 : ∀ x ∈ p0, x.block < W.heap.size := by obtain ⟨m, hm⟩ := k0_; exact DataW.trod_lt m _ _ _ hm
  obtain ⟨cs0, rfl, hcs0⟩ := okWide_struct Try.underlying43 (hval 0 43 v0 rfl rfl)
  obtain ⟨fuel0, hf0⟩ := h0
  have fit0 : fitL W [.sl [.int .i64, .int .i64, .int .i64], .sl [.int .i64, .int .i64, .int .i64], .sl [.int .i64]] cs0.toList := opens43.op hf0
  obtain ⟨l1, m1, e1, g1, t1⟩ := fit0
  obtain ⟨l2, m2, e2, g2, t2⟩ := t1
  obtain ⟨l3, m3, e3, g3, t3⟩ := t2
  have z0 : m3 = [] := t3
  obtain ⟨y1, rfl, n1, f1, s1, hn1, ff1, hr1⟩ := g1
  obtain ⟨y2, rfl, n2, f2, s2, hn2, ff2, hr2⟩ := g2
  obtain ⟨y3, rfl, n3, f3, s3, hn3, ff3, hr3⟩ := g3
  obtain rfl : cs0 = #[y1, y2, y3] := by rw [← Array.toArray_toList (xs := cs0), e1, e2, e3, z0]; rfl
  have hrel : HRel (roM [(.arr 3 n1 (colsFrom f1 0 [.int .i64, .int .i64, .int .i64]), s1), (.arr 3 n2 (colsFrom f2 0 [.int .i64, .int .i64, .int .i64]), s2), (.arr 1 n3 (colsFrom f3 0 [.int .i64]), s3)]) (roH [(.arr 3 n1 (colsFrom f1 0 [.int .i64, .int .i64, .int .i64]), s1), (.arr 3 n2 (colsFrom f2 0 [.int .i64, .int .i64, .int .i64]), s2), (.arr 1 n3 (colsFrom f3 0 [.int .i64]), s3)]) W := HRel.ro (by
    intro b p hp
    match b, hp with
    | 0, hp => cases hp; exact (hr1 _ (roM [(.arr 3 n1 (colsFrom f1 0 [.int .i64, .int .i64, .int .i64]), s1), (.arr 3 n2 (colsFrom f2 0 [.int .i64, .int .i64, .int .i64]), s2), (.arr 1 n3 (colsFrom f3 0 [.int .i64]), s3)]) 0 rfl (by simp)).2.cols ff1
    | 1, hp => cases hp; exact (hr2 _ (roM [(.arr 3 n1 (colsFrom f1 0 [.int .i64, .int .i64, .int .i64]), s1), (.arr 3 n2 (colsFrom f2 0 [.int .i64, .int .i64, .int .i64]), s2), (.arr 1 n3 (colsFrom f3 0 [.int .i64]), s3)]) 1 rfl (by simp)).2.cols ff2
    | 2, hp => cases hp; exact (hr3 _ (roM [(.arr 3 n1 (colsFrom f1 0 [.int .i64, .int .i64, .int .i64]), s1), (.arr 3 n2 (colsFrom f2 0 [.int .i64, .int .i64, .int .i64]), s2), (.arr 1 n3 (colsFrom f3 0 [.int .i64]), s3)]) 2 rfl (by simp)).2.cols ff3
    | b + 3, hp => simp at hp)
  refine (Tri.calls (lawFnExactTxnAll n1 hn1 (icol f1 0) (icol f1 1) (icol f1 2) (fun i hi => col_wf (ff1 i hi) (j := 0) rfl) (fun i hi => col_wf (ff1 i hi) (j := 1) rfl) (fun i hi => col_wf (ff1 i hi) (j := 2) rfl) n2 hn2 (icol f2 0) (icol f2 1) (icol f2 2) (fun i hi => col_wf (ff2 i hi) (j := 0) rfl) (fun i hi => col_wf (ff2 i hi) (j := 1) rfl) (fun i hi => col_wf (ff2 i hi) (j := 2) rfl) n3 hn3 (icol f3 0) (fun i hi => col_wf (ff3 i hi) (j := 0) rfl)) rfl hrel (by exact ⟨⟨_, rfl, ⟨(hr1 _ _ 0 rfl (by simp)).1, (hr2 _ _ 1 rfl (by simp)).1, (hr3 _ _ 2 rfl (by simp)).1, trivial⟩⟩, trivial⟩)).mono fun e W' he => ?_
  obtain ⟨rfl, bel⟩ := he
  exact ⟨_, rfl, _, _, _, [], _, [], hW', trodAll_mk1 (shut_bool Try.underlying4 _), (trodAll_cons_mk (Below.trod laidOut (by kernel_rfl) (of_decide_eq_true (by kernel_rfl)) k0_ bel lt0) trodAll_mk0), rfl, bel.frame _, fun h => by cases h⟩
theorem over : Rows.fnExactTxnAllRow.holds Try.pinned (OpenSpec.ofChange Rows.fnExactTxnAllSpec) :=
  OpenClaim.holds_of_wide 5 Try.f5 rfl rfl rfl rfl rfl rfl rfl ⟨rfl, rfl, rfl, rfl, rfl⟩ rfl rfl rfl rfl rfl (by kernel_rfl) Try.func5 (by kernel_rfl)
    (of_decide_eq_true (by kernel_rfl)) (by unfold Func.isWrapper; first | (rw [if_pos (by decide +kernel)]; kernel_rfl) | (rw [if_neg (by decide +kernel)]; exact ⟨rfl, rfl⟩))
    (fun os started H enc _ => lifted os started H enc)
theorem proved : Rows.FnExactTxnAllSaid := over
#print axioms proved
end Go.Proofs.Ytaklcaejeaiagaa.fnExactTxnAll
namespace Go.Proofs.Ytaklcaejeaiagaa
/-- The row, under a short name, for the claim. -/
theorem fnExactTxnAll_holds : Rows.FnExactTxnAllSaid := fnExactTxnAll.proved
end Go.Proofs.Ytaklcaejeaiagaa
