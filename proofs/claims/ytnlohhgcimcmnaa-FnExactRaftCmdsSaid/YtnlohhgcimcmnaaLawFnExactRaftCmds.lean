/- The law FnExactRaftCmds holds of the given program, at every input: it returns true, and its arguments read afterwards as before. No condition. -/
import Derived.Test.YtnlohhgcimcmnaaRows
import Derived.Test.YtnlohhgcimcmnaaEWFnExactRaftCmds
import Derived.WalkKit
import Derived.ProofKit
import Derived.OpenShut
import Derived.ShutString
import Derived.ChangeOld
import Derived.Below
import Derived.SizedLaws
namespace Go.Proofs.Ytnlohhgcimcmnaa.fnExactRaftCmds
open Go.ChangeShapes Go.WideShapes Go.ChangeAt Go.RowKit Go.Proofs.YtnlohhgcimcmnaaE
open Go.ChangeMaps (open_string shut_string)
theorem flat3 : FlatT Try.prog 3 [.int .i64] := FlatT.int Try.underlying3 (by kernel_rfl)
theorem opens3 : OpenT Try.prog 3 [.flat [.int .i64]] := OpenT.flat flat3
theorem flat9 : FlatT Try.prog 9 [.str] := FlatT.str Try.underlying9 (by kernel_rfl)
theorem flat36 : FlatT Try.prog 36 [.int .i64, .int .i64, .int .i64, .int .i64, .int .i64, .str] := FlatT.struct Try.underlying36 (by kernel_rfl) (FlatFs.cons (ks := [.int .i64]) (ks' := [.int .i64, .int .i64, .int .i64, .int .i64, .str]) rfl flat3 (FlatFs.cons (ks := [.int .i64]) (ks' := [.int .i64, .int .i64, .int .i64, .str]) rfl flat3 (FlatFs.cons (ks := [.int .i64]) (ks' := [.int .i64, .int .i64, .str]) rfl flat3 (FlatFs.cons (ks := [.int .i64]) (ks' := [.int .i64, .str]) rfl flat3 (FlatFs.cons (ks := [.int .i64]) (ks' := [.str]) rfl flat3 (FlatFs.cons (ks := [.str]) (ks' := []) rfl flat9 FlatFs.nil))))))
theorem flat97 : FlatT Try.prog 97 [.int .i64, .int .i64, .int .i64, .int .i64, .int .i64, .int .i64, .str] := FlatT.struct Try.underlying97 (by kernel_rfl) (FlatFs.cons (ks := [.int .i64]) (ks' := [.int .i64, .int .i64, .int .i64, .int .i64, .int .i64, .str]) rfl flat3 (FlatFs.cons (ks := [.int .i64, .int .i64, .int .i64, .int .i64, .int .i64, .str]) (ks' := []) rfl flat36 FlatFs.nil))
theorem opens22 : OpenT Try.prog 22 [.sl [.int .i64, .int .i64, .int .i64, .int .i64, .int .i64, .int .i64, .str]] := OpenT.slice Try.underlying22 (by kernel_rfl) flat97 (by decide)
theorem opens23 : OpenT Try.prog 23 [.sl [.int .i64]] := OpenT.slice Try.underlying23 (by kernel_rfl) flat3 (by decide)
theorem opens25 : OpenT Try.prog 25 [.flat [.int .i64], .flat [.int .i64], .flat [.int .i64], .sl [.int .i64, .int .i64, .int .i64, .int .i64, .int .i64, .int .i64, .str], .flat [.int .i64], .flat [.int .i64], .sl [.int .i64], .sl [.int .i64], .flat [.int .i64]] := OpenT.struct Try.underlying25 (by kernel_rfl) (OpenFs.cons (Ts := [.flat [.int .i64]]) (Us := [.flat [.int .i64], .flat [.int .i64], .sl [.int .i64, .int .i64, .int .i64, .int .i64, .int .i64, .int .i64, .str], .flat [.int .i64], .flat [.int .i64], .sl [.int .i64], .sl [.int .i64], .flat [.int .i64]]) rfl opens3 (OpenFs.cons (Ts := [.flat [.int .i64]]) (Us := [.flat [.int .i64], .sl [.int .i64, .int .i64, .int .i64, .int .i64, .int .i64, .int .i64, .str], .flat [.int .i64], .flat [.int .i64], .sl [.int .i64], .sl [.int .i64], .flat [.int .i64]]) rfl opens3 (OpenFs.cons (Ts := [.flat [.int .i64]]) (Us := [.sl [.int .i64, .int .i64, .int .i64, .int .i64, .int .i64, .int .i64, .str], .flat [.int .i64], .flat [.int .i64], .sl [.int .i64], .sl [.int .i64], .flat [.int .i64]]) rfl opens3 (OpenFs.cons (Ts := [.sl [.int .i64, .int .i64, .int .i64, .int .i64, .int .i64, .int .i64, .str]]) (Us := [.flat [.int .i64], .flat [.int .i64], .sl [.int .i64], .sl [.int .i64], .flat [.int .i64]]) rfl opens22 (OpenFs.cons (Ts := [.flat [.int .i64]]) (Us := [.flat [.int .i64], .sl [.int .i64], .sl [.int .i64], .flat [.int .i64]]) rfl opens3 (OpenFs.cons (Ts := [.flat [.int .i64]]) (Us := [.sl [.int .i64], .sl [.int .i64], .flat [.int .i64]]) rfl opens3 (OpenFs.cons (Ts := [.sl [.int .i64]]) (Us := [.sl [.int .i64], .flat [.int .i64]]) rfl opens23 (OpenFs.cons (Ts := [.sl [.int .i64]]) (Us := [.flat [.int .i64]]) rfl opens23 (OpenFs.cons (Ts := [.flat [.int .i64]]) (Us := []) rfl opens3 OpenFs.nil)))))))))
theorem own : ownKnob Try.prog.godebug = none := by kernel_rfl
theorem laidOut : laidOutB Try.prog = true := by kernel_rfl
set_option maxRecDepth 100000 in
theorem lifted (os : Os) (started : os.Started) (H : Type) (enc : TypeId × Value → H) :
    ReturnsInHanded {} Try.checked os 6 .any (Rows.fnExactRaftCmdsSpec.pre6 enc Try.prog Try.f6 Rows.fnExactRaftCmdsRow.domain false) (Rows.fnExactRaftCmdsSpec.post enc Try.prog Try.f6 false true false false) := by
  refine returnsInHanded_of_change_sized (C := Try.checked) own started (by kernel_rfl) Try.func6
    (ChangeSpec.witness6 (enc := enc) (C := Try.checked) false ⟨#[], #[.agg #[.int .i64 0, .int .i64 0, .int .i64 0, .slice none 0 0, .int .i64 0, .int .i64 0, .slice none 0 0, .slice none 0 0, .int .i64 0], .int .i64 0], []⟩ 8 (by kernel_rfl) (by kernel_rfl) (by kernel_rfl) (by kernel_rfl)) ?_
  intro W base args ds gs before hval0 hW hcnd hsz0 _
  have hval : ∀ (j : Nat) t v, Try.f6.params[j]? = some t → args[j]? = some v → Value.okWide Try.prog W .any base t v := hval0
  have hW' := hW
  obtain ⟨p, q, hA0, hV, rfl, hfz, hnd⟩ := hW
  have hA : DataW.TrodAll enc Try.prog W 0 (fun _ => true) true Try.f6.params.toList args.toList ds p := hA0
  rw [Try.params6] at hA hval
  obtain ⟨v0, vs0, d0, ds0, p0, q0, hargs, rfl, rfl, h0, r0⟩ := trodAll_cons hA
  obtain ⟨v1, vs1, d1, ds1, p1, q1, rfl, rfl, rfl, h1, r1⟩ := trodAll_cons r0
  obtain ⟨rfl, rfl, rfl⟩ := trodAll_nil r1
  obtain rfl : args = #[v0, v1] := by cases args; simp_all
  obtain ⟨rfl, rfl⟩ := trodVars_none hV
  have k0_ := h0
  have lt0 : ∀ x ∈ p0, x.block < W.heap.size := by obtain ⟨m, hm⟩ := k0_; exact DataW.trod_lt m _ _ _ hm
  obtain ⟨cs0, rfl, hcs0⟩ := okWide_struct Try.underlying25 (hval 0 25 v0 rfl rfl)
  obtain ⟨fuel0, hf0⟩ := h0
  have fit0 : fitL W [.flat [.int .i64], .flat [.int .i64], .flat [.int .i64], .sl [.int .i64, .int .i64, .int .i64, .int .i64, .int .i64, .int .i64, .str], .flat [.int .i64], .flat [.int .i64], .sl [.int .i64], .sl [.int .i64], .flat [.int .i64]] cs0.toList := opens25.op hf0
  obtain ⟨l1, m1, e1, g1, t1⟩ := fit0
  obtain ⟨l2, m2, e2, g2, t2⟩ := t1
  obtain ⟨l3, m3, e3, g3, t3⟩ := t2
  obtain ⟨l4, m4, e4, g4, t4⟩ := t3
  obtain ⟨l5, m5, e5, g5, t5⟩ := t4
  obtain ⟨l6, m6, e6, g6, t6⟩ := t5
  obtain ⟨l7, m7, e7, g7, t7⟩ := t6
  obtain ⟨l8, m8, e8, g8, t8⟩ := t7
  obtain ⟨l9, m9, e9, g9, t9⟩ := t8
  have z0 : m9 = [] := t9
  obtain ⟨x1, rfl, wx1⟩ := Flat.int g1
  obtain ⟨x2, rfl, wx2⟩ := Flat.int g2
  obtain ⟨x3, rfl, wx3⟩ := Flat.int g3
  obtain ⟨y4, rfl, n4, f4, s4, hn4, ff4, hr4⟩ := g4
  obtain ⟨x5, rfl, wx5⟩ := Flat.int g5
  obtain ⟨x6, rfl, wx6⟩ := Flat.int g6
  obtain ⟨y7, rfl, n7, f7, s7, hn7, ff7, hr7⟩ := g7
  obtain ⟨y8, rfl, n8, f8, s8, hn8, ff8, hr8⟩ := g8
  obtain ⟨x9, rfl, wx9⟩ := Flat.int g9
  obtain rfl : cs0 = #[.int .i64 x1, .int .i64 x2, .int .i64 x3, y4, .int .i64 x5, .int .i64 x6, y7, y8, .int .i64 x9] := by rw [← Array.toArray_toList (xs := cs0), e1, e2, e3, e4, e5, e6, e7, e8, e9, z0]; rfl
  have k1_ := h1
  have lt1 : ∀ x ∈ p1, x.block < W.heap.size := by obtain ⟨m, hm⟩ := k1_; exact DataW.trod_lt m _ _ _ hm
  obtain ⟨x1_, rfl⟩ := okWide_int Try.underlying3 (hval 1 3 v1 rfl rfl)
  obtain ⟨fuel1, hf1⟩ := h1
  have fit1 : fitL W [.flat [.int .i64]] [.int .i64 x1_] := opens3.op hf1
  obtain ⟨l10, m10, e10, g10, t10⟩ := fit1
  have z1 : m10 = [] := t10
  obtain ⟨x10, rfl, wx10⟩ := Flat.int g10
  rw [z1] at e10
  have ev1 := (List.cons.inj e10).1
  cases ev1
  have hrel : HRel (roM [(.arr 7 n4 (colsFrom f4 0 [.int .i64, .int .i64, .int .i64, .int .i64, .int .i64, .int .i64, .str]), s4), (.arr 1 n7 (colsFrom f7 0 [.int .i64]), s7), (.arr 1 n8 (colsFrom f8 0 [.int .i64]), s8)]) (roH [(.arr 7 n4 (colsFrom f4 0 [.int .i64, .int .i64, .int .i64, .int .i64, .int .i64, .int .i64, .str]), s4), (.arr 1 n7 (colsFrom f7 0 [.int .i64]), s7), (.arr 1 n8 (colsFrom f8 0 [.int .i64]), s8)]) W := HRel.ro (by
    intro b p hp
    match b, hp with
    | 0, hp => cases hp; exact (hr4 _ (roM [(.arr 7 n4 (colsFrom f4 0 [.int .i64, .int .i64, .int .i64, .int .i64, .int .i64, .int .i64, .str]), s4), (.arr 1 n7 (colsFrom f7 0 [.int .i64]), s7), (.arr 1 n8 (colsFrom f8 0 [.int .i64]), s8)]) 0 rfl (by simp)).2.cols ff4
    | 1, hp => cases hp; exact (hr7 _ (roM [(.arr 7 n4 (colsFrom f4 0 [.int .i64, .int .i64, .int .i64, .int .i64, .int .i64, .int .i64, .str]), s4), (.arr 1 n7 (colsFrom f7 0 [.int .i64]), s7), (.arr 1 n8 (colsFrom f8 0 [.int .i64]), s8)]) 1 rfl (by simp)).2.cols ff7
    | 2, hp => cases hp; exact (hr8 _ (roM [(.arr 7 n4 (colsFrom f4 0 [.int .i64, .int .i64, .int .i64, .int .i64, .int .i64, .int .i64, .str]), s4), (.arr 1 n7 (colsFrom f7 0 [.int .i64]), s7), (.arr 1 n8 (colsFrom f8 0 [.int .i64]), s8)]) 2 rfl (by simp)).2.cols ff8
    | b + 3, hp => simp at hp)
  refine (Tri.calls (lawFnExactRaftCmds x1 wx1 x2 wx2 x3 wx3 n4 hn4 (icol f4 0) (icol f4 1) (icol f4 2) (icol f4 3) (icol f4 4) (icol f4 5) (scol f4 6) (fun i hi => col_wf (ff4 i hi) (j := 0) rfl) (fun i hi => col_wf (ff4 i hi) (j := 1) rfl) (fun i hi => col_wf (ff4 i hi) (j := 2) rfl) (fun i hi => col_wf (ff4 i hi) (j := 3) rfl) (fun i hi => col_wf (ff4 i hi) (j := 4) rfl) (fun i hi => col_wf (ff4 i hi) (j := 5) rfl) (fun i hi => col_sz (ff4 i hi) (j := 6) rfl) x5 wx5 x6 wx6 n7 hn7 (icol f7 0) (fun i hi => col_wf (ff7 i hi) (j := 0) rfl) n8 hn8 (icol f8 0) (fun i hi => col_wf (ff8 i hi) (j := 0) rfl) x9 wx9 x1_ wx10) rfl hrel (by exact ⟨⟨_, rfl, ⟨rfl, rfl, rfl, (hr4 _ _ 0 rfl (by simp)).1, rfl, rfl, (hr7 _ _ 1 rfl (by simp)).1, (hr8 _ _ 2 rfl (by simp)).1, rfl, trivial⟩⟩, rfl, trivial⟩)).mono fun e W' he => ?_
  obtain ⟨rfl, bel⟩ := he
  exact ⟨_, rfl, _, _, _, [], _, [], hW', trodAll_mk1 (shut_bool Try.underlying4 _), (trodAll_cons_mk (Below.trod laidOut (by kernel_rfl) (of_decide_eq_true (by kernel_rfl)) k0_ bel lt0) (trodAll_cons_mk (Below.trod laidOut (by kernel_rfl) (of_decide_eq_true (by kernel_rfl)) k1_ bel lt1) trodAll_mk0)), rfl, bel.frame _, fun h => by cases h⟩
theorem over : Rows.fnExactRaftCmdsRow.holds Try.pinned (OpenSpec.ofChange Rows.fnExactRaftCmdsSpec) :=
  OpenClaim.holds_of_wide 6 Try.f6 rfl rfl rfl rfl rfl rfl rfl ⟨rfl, rfl, rfl, rfl, rfl⟩ rfl rfl rfl rfl rfl (by kernel_rfl) Try.func6 (by kernel_rfl)
    (of_decide_eq_true (by kernel_rfl)) (by unfold Func.isWrapper; first | (rw [if_pos (by decide +kernel)]; kernel_rfl) | (rw [if_neg (by decide +kernel)]; exact ⟨rfl, rfl⟩))
    (fun os started H enc _ => lifted os started H enc)
theorem proved : Rows.FnExactRaftCmdsSaid := over
#print axioms proved
end Go.Proofs.Ytnlohhgcimcmnaa.fnExactRaftCmds
namespace Go.Proofs.Ytnlohhgcimcmnaa
/-- The row, under a short name, for the claim. -/
theorem fnExactRaftCmds_holds : Rows.FnExactRaftCmdsSaid := fnExactRaftCmds.proved
end Go.Proofs.Ytnlohhgcimcmnaa
