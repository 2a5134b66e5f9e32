/- The law FnExactWordPack holds of the given program, at every input: it returns true, and its arguments read afterwards as before. No condition. -/
import Derived.Test.YtnlohhgcimcmnaaRows
import Derived.Test.YtnlohhgcimcmnaaEWFnExactWordPack
import Derived.WalkKit
import Derived.ProofKit
import Derived.OpenShut
import Derived.ShutString
import Derived.ChangeOld
import Derived.Below
import Derived.SizedLaws
namespace Go.Proofs.Ytnlohhgcimcmnaa.fnExactWordPack
open Go.ChangeShapes Go.WideShapes Go.ChangeAt Go.RowKit Go.Proofs.YtnlohhgcimcmnaaE
open Go.ChangeMaps (open_string shut_string)
theorem flat3 : FlatT Try.prog 3 [.int .i64] := FlatT.int Try.underlying3 (by kernel_rfl)
theorem opens3 : OpenT Try.prog 3 [.flat [.int .i64]] := OpenT.flat flat3
theorem flat4 : FlatT Try.prog 4 [.bool] := FlatT.bool Try.underlying4 (by kernel_rfl)
theorem opens4 : OpenT Try.prog 4 [.flat [.bool]] := OpenT.flat flat4
theorem flat9 : FlatT Try.prog 9 [.str] := FlatT.str Try.underlying9 (by kernel_rfl)
theorem flat36 : FlatT Try.prog 36 [.int .i64, .int .i64, .int .i64, .int .i64, .int .i64, .str] := FlatT.struct Try.underlying36 (by kernel_rfl) (FlatFs.cons (ks := [.int .i64]) (ks' := [.int .i64, .int .i64, .int .i64, .int .i64, .str]) rfl flat3 (FlatFs.cons (ks := [.int .i64]) (ks' := [.int .i64, .int .i64, .int .i64, .str]) rfl flat3 (FlatFs.cons (ks := [.int .i64]) (ks' := [.int .i64, .int .i64, .str]) rfl flat3 (FlatFs.cons (ks := [.int .i64]) (ks' := [.int .i64, .str]) rfl flat3 (FlatFs.cons (ks := [.int .i64]) (ks' := [.str]) rfl flat3 (FlatFs.cons (ks := [.str]) (ks' := []) rfl flat9 FlatFs.nil))))))
theorem flat97 : FlatT Try.prog 97 [.int .i64, .int .i64, .int .i64, .int .i64, .int .i64, .int .i64, .str] := FlatT.struct Try.underlying97 (by kernel_rfl) (FlatFs.cons (ks := [.int .i64]) (ks' := [.int .i64, .int .i64, .int .i64, .int .i64, .int .i64, .str]) rfl flat3 (FlatFs.cons (ks := [.int .i64, .int .i64, .int .i64, .int .i64, .int .i64, .str]) (ks' := []) rfl flat36 FlatFs.nil))
theorem opens22 : OpenT Try.prog 22 [.sl [.int .i64, .int .i64, .int .i64, .int .i64, .int .i64, .int .i64, .str]] := OpenT.slice Try.underlying22 (by kernel_rfl) flat97 (by decide)
theorem flat104 : FlatT Try.prog 104 [.int .i64, .int .i64] := FlatT.struct Try.underlying104 (by kernel_rfl) (FlatFs.cons (ks := [.int .i64]) (ks' := [.int .i64]) rfl flat3 (FlatFs.cons (ks := [.int .i64]) (ks' := []) rfl flat3 FlatFs.nil))
theorem opens34 : OpenT Try.prog 34 [.sl [.int .i64, .int .i64]] := OpenT.slice Try.underlying34 (by kernel_rfl) flat104 (by decide)
theorem opens23 : OpenT Try.prog 23 [.sl [.int .i64]] := OpenT.slice Try.underlying23 (by kernel_rfl) flat3 (by decide)
theorem opens9 : OpenT Try.prog 9 [.flat [.str]] := OpenT.flat flat9
theorem opens36 : OpenT Try.prog 36 [.flat [.int .i64], .flat [.int .i64], .flat [.int .i64], .flat [.int .i64], .flat [.int .i64], .flat [.str]] := OpenT.struct Try.underlying36 (by kernel_rfl) (OpenFs.cons (Ts := [.flat [.int .i64]]) (Us := [.flat [.int .i64], .flat [.int .i64], .flat [.int .i64], .flat [.int .i64], .flat [.str]]) rfl opens3 (OpenFs.cons (Ts := [.flat [.int .i64]]) (Us := [.flat [.int .i64], .flat [.int .i64], .flat [.int .i64], .flat [.str]]) rfl opens3 (OpenFs.cons (Ts := [.flat [.int .i64]]) (Us := [.flat [.int .i64], .flat [.int .i64], .flat [.str]]) rfl opens3 (OpenFs.cons (Ts := [.flat [.int .i64]]) (Us := [.flat [.int .i64], .flat [.str]]) rfl opens3 (OpenFs.cons (Ts := [.flat [.int .i64]]) (Us := [.flat [.str]]) rfl opens3 (OpenFs.cons (Ts := [.flat [.str]]) (Us := []) rfl opens9 OpenFs.nil))))))
theorem opens38 : OpenT Try.prog 38 [.flat [.int .i64], .flat [.int .i64], .flat [.int .i64], .flat [.int .i64], .flat [.int .i64], .flat [.int .i64], .flat [.int .i64], .flat [.bool], .sl [.int .i64, .int .i64, .int .i64, .int .i64, .int .i64, .int .i64, .str], .flat [.int .i64], .flat [.int .i64], .flat [.int .i64], .sl [.int .i64, .int .i64], .flat [.int .i64], .flat [.int .i64], .flat [.int .i64], .sl [.int .i64], .flat [.int .i64], .flat [.int .i64], .flat [.int .i64], .flat [.int .i64], .flat [.int .i64], .flat [.str]] := OpenT.struct Try.underlying38 (by kernel_rfl) (OpenFs.cons (Ts := [.flat [.int .i64]]) (Us := [.flat [.int .i64], .flat [.int .i64], .flat [.int .i64], .flat [.int .i64], .flat [.int .i64], .flat [.int .i64], .flat [.bool], .sl [.int .i64, .int .i64, .int .i64, .int .i64, .int .i64, .int .i64, .str], .flat [.int .i64], .flat [.int .i64], .flat [.int .i64], .sl [.int .i64, .int .i64], .flat [.int .i64], .flat [.int .i64], .flat [.int .i64], .sl [.int .i64], .flat [.int .i64], .flat [.int .i64], .flat [.int .i64], .flat [.int .i64], .flat [.int .i64], .flat [.str]]) rfl opens3 (OpenFs.cons (Ts := [.flat [.int .i64]]) (Us := [.flat [.int .i64], .flat [.int .i64], .flat [.int .i64], .flat [.int .i64], .flat [.int .i64], .flat [.bool], .sl [.int .i64, .int .i64, .int .i64, .int .i64, .int .i64, .int .i64, .str], .flat [.int .i64], .flat [.int .i64], .flat [.int .i64], .sl [.int .i64, .int .i64], .flat [.int .i64], .flat [.int .i64], .flat [.int .i64], .sl [.int .i64], .flat [.int .i64], .flat [.int .i64], .flat [.int .i64], .flat [.int .i64], .flat [.int .i64], .flat [.str]]) rfl opens3 (OpenFs.cons (Ts := [.flat [.int .i64]]) (Us := [.flat [.int .i64], .flat [.int .i64], .flat [.int .i64], .flat [.int .i64], .flat [.bool], .sl [.int .i64, .int .i64, .int .i64, .int .i64, .int .i64, .int .i64, .str], .flat [.int .i64], .flat [.int .i64], .flat [.int .i64], .sl [.int .i64, .int .i64], .flat [.int .i64], .flat [.int .i64], .flat [.int .i64], .sl [.int .i64], .flat [.int .i64], .flat [.int .i64], .flat [.int .i64], .flat [.int .i64], .flat [.int .i64], .flat [.str]]) rfl opens3 (OpenFs.cons (Ts := [.flat [.int .i64]]) (Us := [.flat [.int .i64], .flat [.int .i64], .flat [.int .i64], .flat [.bool], .sl [.int .i64, .int .i64, .int .i64, .int .i64, .int .i64, .int .i64, .str], .flat [.int .i64], .flat [.int .i64], .flat [.int .i64], .sl [.int .i64, .int .i64], .flat [.int .i64], .flat [.int .i64], .flat [.int .i64], .sl [.int .i64], .flat [.int .i64], .flat [.int .i64], .flat [.int .i64], .flat [.int .i64], .flat [.int .i64], .flat [.str]]) rfl opens3 (OpenFs.cons (Ts := [.flat [.int .i64]]) (Us := [.flat [.int .i64], .flat [.int .i64], .flat [.bool], .sl [.int .i64, .int .i64, .int .i64, .int .i64, .int .i64, .int .i64, .str], .flat [.int .i64], .flat [.int .i64], .flat [.int .i64], .sl [.int .i64, .int .i64], .flat [.int .i64], .flat [.int .i64], .flat [.int .i64], .sl [.int .i64], .flat [.int .i64], .flat [.int .i64], .flat [.int .i64], .flat [.int .i64], .flat [.int .i64], .flat [.str]]) rfl opens3 (OpenFs.cons (Ts := [.flat [.int .i64]]) (Us := [.flat [.int .i64], .flat [.bool], .sl [.int .i64, .int .i64, .int .i64, .int .i64, .int .i64, .int .i64, .str], .flat [.int .i64], .flat [.int .i64], .flat [.int .i64], .sl [.int .i64, .int .i64], .flat [.int .i64], .flat [.int .i64], .flat [.int .i64], .sl [.int .i64], .flat [.int .i64], .flat [.int .i64], .flat [.int .i64], .flat [.int .i64], .flat [.int .i64], .flat [.str]]) rfl opens3 (OpenFs.cons (Ts := [.flat [.int .i64]]) (Us := [.flat [.bool], .sl [.int .i64, .int .i64, .int .i64, .int .i64, .int .i64, .int .i64, .str], .flat [.int .i64], .flat [.int .i64], .flat [.int .i64], .sl [.int .i64, .int .i64], .flat [.int .i64], .flat [.int .i64], .flat [.int .i64], .sl [.int .i64], .flat [.int .i64], .flat [.int .i64], .flat [.int .i64], .flat [.int .i64], .flat [.int .i64], .flat [.str]]) rfl opens3 (OpenFs.cons (Ts := [.flat [.bool]]) (Us := [.sl [.int .i64, .int .i64, .int .i64, .int .i64, .int .i64, .int .i64, .str], .flat [.int .i64], .flat [.int .i64], .flat [.int .i64], .sl [.int .i64, .int .i64], .flat [.int .i64], .flat [.int .i64], .flat [.int .i64], .sl [.int .i64], .flat [.int .i64], .flat [.int .i64], .flat [.int .i64], .flat [.int .i64], .flat [.int .i64], .flat [.str]]) rfl opens4 (OpenFs.cons (Ts := [.sl [.int .i64, .int .i64, .int .i64, .int .i64, .int .i64, .int .i64, .str]]) (Us := [.flat [.int .i64], .flat [.int .i64], .flat [.int .i64], .sl [.int .i64, .int .i64], .flat [.int .i64], .flat [.int .i64], .flat [.int .i64], .sl [.int .i64], .flat [.int .i64], .flat [.int .i64], .flat [.int .i64], .flat [.int .i64], .flat [.int .i64], .flat [.str]]) rfl opens22 (OpenFs.cons (Ts := [.flat [.int .i64]]) (Us := [.flat [.int .i64], .flat [.int .i64], .sl [.int .i64, .int .i64], .flat [.int .i64], .flat [.int .i64], .flat [.int .i64], .sl [.int .i64], .flat [.int .i64], .flat [.int .i64], .flat [.int .i64], .flat [.int .i64], .flat [.int .i64], .flat [.str]]) rfl opens3 (OpenFs.cons (Ts := [.flat [.int .i64]]) (Us := [.flat [.int .i64], .sl [.int .i64, .int .i64], .flat [.int .i64], .flat [.int .i64], .flat [.int .i64], .sl [.int .i64], .flat [.int .i64], .flat [.int .i64], .flat [.int .i64], .flat [.int .i64], .flat [.int .i64], .flat [.str]]) rfl opens3 (OpenFs.cons (Ts := [.flat [.int .i64]]) (Us := [.sl [.int .i64, .int .i64], .flat [.int .i64], .flat [.int .i64], .flat [.int .i64], .sl [.int .i64], .flat [.int .i64], .flat [.int .i64], .flat [.int .i64], .flat [.int .i64], .flat [.int .i64], .flat [.str]]) rfl opens3 (OpenFs.cons (Ts := [.sl [.int .i64, .int .i64]]) (Us := [.flat [.int .i64], .flat [.int .i64], .flat [.int .i64], .sl [.int .i64], .flat [.int .i64], .flat [.int .i64], .flat [.int .i64], .flat [.int .i64], .flat [.int .i64], .flat [.str]]) rfl opens34 (OpenFs.cons (Ts := [.flat [.int .i64]]) (Us := [.flat [.int .i64], .flat [.int .i64], .sl [.int .i64], .flat [.int .i64], .flat [.int .i64], .flat [.int .i64], .flat [.int .i64], .flat [.int .i64], .flat [.str]]) rfl opens3 (OpenFs.cons (Ts := [.flat [.int .i64]]) (Us := [.flat [.int .i64], .sl [.int .i64], .flat [.int .i64], .flat [.int .i64], .flat [.int .i64], .flat [.int .i64], .flat [.int .i64], .flat [.str]]) rfl opens3 (OpenFs.cons (Ts := [.flat [.int .i64]]) (Us := [.sl [.int .i64], .flat [.int .i64], .flat [.int .i64], .flat [.int .i64], .flat [.int .i64], .flat [.int .i64], .flat [.str]]) rfl opens3 (OpenFs.cons (Ts := [.sl [.int .i64]]) (Us := [.flat [.int .i64], .flat [.int .i64], .flat [.int .i64], .flat [.int .i64], .flat [.int .i64], .flat [.str]]) rfl opens23 (OpenFs.cons (Ts := [.flat [.int .i64], .flat [.int .i64], .flat [.int .i64], .flat [.int .i64], .flat [.int .i64], .flat [.str]]) (Us := []) rfl opens36 OpenFs.nil))))))))))))))))))
theorem own : ownKnob Try.prog.godebug = none := by kernel_rfl
theorem laidOut : laidOutB Try.prog = true := by kernel_rfl
set_option maxRecDepth 100000 in
theorem lifted (os : Os) (started : os.Started) (H : Type) (enc : TypeId × Value → H) :
    ReturnsInHanded {} Try.checked os 7 .any (Rows.fnExactWordPackSpec.pre6 enc Try.prog Try.f7 Rows.fnExactWordPackRow.domain false) (Rows.fnExactWordPackSpec.post enc Try.prog Try.f7 false true false false) := by
  refine returnsInHanded_of_change_sized (C := Try.checked) own started (by kernel_rfl) Try.func7
    (ChangeSpec.witness6 (enc := enc) (C := Try.checked) false ⟨#[], #[.agg #[.int .i64 0, .int .i64 0, .int .i64 0, .int .i64 0, .int .i64 0, .int .i64 0, .int .i64 0, .bool false, .slice none 0 0, .int .i64 0, .int .i64 0, .int .i64 0, .slice none 0 0, .int .i64 0, .int .i64 0, .int .i64 0, .slice none 0 0, .int .i64 0, .int .i64 0, .int .i64 0, .int .i64 0, .int .i64 0, .string ByteArray.empty]], []⟩ 8 (by kernel_rfl) (by kernel_rfl) (by kernel_rfl) (by kernel_rfl)) ?_
  intro W base args ds gs before hval0 hW hcnd hsz0 _
  have hval : ∀ (j : Nat) t v, Try.f7.params[j]? = some t → args[j]? = some v → Value.okWide Try.prog W .any base t v := hval0
  have hW' := hW
  obtain ⟨p, q, hA0, hV, rfl, hfz, hnd⟩ := hW
  have hA : DataW.TrodAll enc Try.prog W 0 (fun _ => true) true Try.f7.params.toList args.toList ds p := hA0
  rw [Try.params7] at hA hval
  obtain ⟨v0, vs0, d0, ds0, p0, q0, hargs, rfl, rfl, h0, r0⟩ := trodAll_cons hA
  obtain ⟨rfl, rfl, rfl⟩ := trodAll_nil r0
  obtain rfl : args = #[v0] := by cases args; simp_all
  obtain ⟨rfl, rfl⟩ := trodVars_none hV
  have k0_ := h0
  have lt0 : ∀ x ∈ p0, x.block < W.heap.size := by obtain ⟨m, hm⟩ := k0_; exact DataW.trod_lt m _ _ _ hm
  obtain ⟨cs0, rfl, hcs0⟩ := okWide_struct Try.underlying38 (hval 0 38 v0 rfl rfl)
  obtain ⟨fuel0, hf0⟩ := h0
  have fit0 : fitL W [.flat [.int .i64], .flat [.int .i64], .flat [.int .i64], .flat [.int .i64], .flat [.int .i64], .flat [.int .i64], .flat [.int .i64], .flat [.bool], .sl [.int .i64, .int .i64, .int .i64, .int .i64, .int .i64, .int .i64, .str], .flat [.int .i64], .flat [.int .i64], .flat [.int .i64], .sl [.int .i64, .int .i64], .flat [.int .i64], .flat [.int .i64], .flat [.int .i64], .sl [.int .i64], .flat [.int .i64], .flat [.int .i64], .flat [.int .i64], .flat [.int .i64], .flat [.int .i64], .flat [.str]] cs0.toList := opens38.op hf0
  obtain ⟨l1, m1, e1, g1, t1⟩ := fit0
  obtain ⟨l2, m2, e2, g2, t2⟩ := t1
  obtain ⟨l3, m3, e3, g3, t3⟩ := t2
  obtain ⟨l4, m4, e4, g4, t4⟩ := t3
  obtain ⟨l5, m5, e5, g5, t5⟩ := t4
  obtain ⟨l6, m6, e6, g6, t6⟩ := t5
  obtain ⟨l7, m7, e7, g7, t7⟩ := t6
  obtain ⟨l8, m8, e8, g8, t8⟩ := t7
  obtain ⟨l9, m9, e9, g9, t9⟩ := t8
  obtain ⟨l10, m10, e10, g10, t10⟩ := t9
  obtain ⟨l11, m11, e11, g11, t11⟩ := t10
  obtain ⟨l12, m12, e12, g12, t12⟩ := t11
  obtain ⟨l13, m13, e13, g13, t13⟩ := t12
  obtain ⟨l14, m14, e14, g14, t14⟩ := t13
  obtain ⟨l15, m15, e15, g15, t15⟩ := t14
  obtain ⟨l16, m16, e16, g16, t16⟩ := t15
  obtain ⟨l17, m17, e17, g17, t17⟩ := t16
  obtain ⟨l18, m18, e18, g18, t18⟩ := t17
  obtain ⟨l19, m19, e19, g19, t19⟩ := t18
  obtain ⟨l20, m20, e20, g20, t20⟩ := t19
  obtain ⟨l21, m21, e21, g21, t21⟩ := t20
  obtain ⟨l22, m22, e22, g22, t22⟩ := t21
  obtain ⟨l23, m23, e23, g23, t23⟩ := t22
  have z0 : m23 = [] := t23
  obtain ⟨x1, rfl, wx1⟩ := Flat.int g1
  obtain ⟨x2, rfl, wx2⟩ := Flat.int g2
  obtain ⟨x3, rfl, wx3⟩ := Flat.int g3
  obtain ⟨x4, rfl, wx4⟩ := Flat.int g4
  obtain ⟨x5, rfl, wx5⟩ := Flat.int g5
  obtain ⟨x6, rfl, wx6⟩ := Flat.int g6
  obtain ⟨x7, rfl, wx7⟩ := Flat.int g7
  obtain ⟨x8, rfl⟩ := Flat.bool g8
  obtain ⟨y9, rfl, n9, f9, s9, hn9, ff9, hr9⟩ := g9
  obtain ⟨x10, rfl, wx10⟩ := Flat.int g10
  obtain ⟨x11, rfl, wx11⟩ := Flat.int g11
  obtain ⟨x12, rfl, wx12⟩ := Flat.int g12
  obtain ⟨y13, rfl, n13, f13, s13, hn13, ff13, hr13⟩ := g13
  obtain ⟨x14, rfl, wx14⟩ := Flat.int g14
  obtain ⟨x15, rfl, wx15⟩ := Flat.int g15
  obtain ⟨x16, rfl, wx16⟩ := Flat.int g16
  obtain ⟨y17, rfl, n17, f17, s17, hn17, ff17, hr17⟩ := g17
  obtain ⟨x18, rfl, wx18⟩ := Flat.int g18
  obtain ⟨x19, rfl, wx19⟩ := Flat.int g19
  obtain ⟨x20, rfl, wx20⟩ := Flat.int g20
  obtain ⟨x21, rfl, wx21⟩ := Flat.int g21
  obtain ⟨x22, rfl, wx22⟩ := Flat.int g22
  obtain ⟨x23, rfl, wx23⟩ := Flat.str g23
  obtain rfl : cs0 = #[.int .i64 x1, .int .i64 x2, .int .i64 x3, .int .i64 x4, .int .i64 x5, .int .i64 x6, .int .i64 x7, .bool x8, y9, .int .i64 x10, .int .i64 x11, .int .i64 x12, y13, .int .i64 x14, .int .i64 x15, .int .i64 x16, y17, .int .i64 x18, .int .i64 x19, .int .i64 x20, .int .i64 x21, .int .i64 x22, .string x23] := by rw [← Array.toArray_toList (xs := cs0), e1, e2, e3, e4, e5, e6, e7, e8, e9, e10, e11, e12, e13, e14, e15, e16, e17, e18, e19, e20, e21, e22, e23, z0]; rfl
  have hrel : HRel (roM [(.arr 7 n9 (colsFrom f9 0 [.int .i64, .int .i64, .int .i64, .int .i64, .int .i64, .int .i64, .str]), s9), (.arr 2 n13 (colsFrom f13 0 [.int .i64, .int .i64]), s13), (.arr 1 n17 (colsFrom f17 0 [.int .i64]), s17)]) (roH [(.arr 7 n9 (colsFrom f9 0 [.int .i64, .int .i64, .int .i64, .int .i64, .int .i64, .int .i64, .str]), s9), (.arr 2 n13 (colsFrom f13 0 [.int .i64, .int .i64]), s13), (.arr 1 n17 (colsFrom f17 0 [.int .i64]), s17)]) W := HRel.ro (by
    intro b p hp
    match b, hp with
    | 0, hp => cases hp; exact (hr9 _ (roM [(.arr 7 n9 (colsFrom f9 0 [.int .i64, .int .i64, .int .i64, .int .i64, .int .i64, .int .i64, .str]), s9), (.arr 2 n13 (colsFrom f13 0 [.int .i64, .int .i64]), s13), (.arr 1 n17 (colsFrom f17 0 [.int .i64]), s17)]) 0 rfl (by simp)).2.cols ff9
    | 1, hp => cases hp; exact (hr13 _ (roM [(.arr 7 n9 (colsFrom f9 0 [.int .i64, .int .i64, .int .i64, .int .i64, .int .i64, .int .i64, .str]), s9), (.arr 2 n13 (colsFrom f13 0 [.int .i64, .int .i64]), s13), (.arr 1 n17 (colsFrom f17 0 [.int .i64]), s17)]) 1 rfl (by simp)).2.cols ff13
    | 2, hp => cases hp; exact (hr17 _ (roM [(.arr 7 n9 (colsFrom f9 0 [.int .i64, .int .i64, .int .i64, .int .i64, .int .i64, .int .i64, .str]), s9), (.arr 2 n13 (colsFrom f13 0 [.int .i64, .int .i64]), s13), (.arr 1 n17 (colsFrom f17 0 [.int .i64]), s17)]) 2 rfl (by simp)).2.cols ff17
    | b + 3, hp => simp at hp)
  refine (Tri.calls (lawFnExactWordPack x1 wx1 x2 wx2 x3 wx3 x4 wx4 x5 wx5 x6 wx6 x7 wx7 x8 n9 hn9 (icol f9 0) (icol f9 1) (icol f9 2) (icol f9 3) (icol f9 4) (icol f9 5) (scol f9 6) (fun i hi => col_wf (ff9 i hi) (j := 0) rfl) (fun i hi => col_wf (ff9 i hi) (j := 1) rfl) (fun i hi => col_wf (ff9 i hi) (j := 2) rfl) (fun i hi => col_wf (ff9 i hi) (j := 3) rfl) (fun i hi => col_wf (ff9 i hi) (j := 4) rfl) (fun i hi => col_wf (ff9 i hi) (j := 5) rfl) (fun i hi => col_sz (ff9 i hi) (j := 6) rfl) x10 wx10 x11 wx11 x12 wx12 n13 hn13 (icol f13 0) (icol f13 1) (fun i hi => col_wf (ff13 i hi) (j := 0) rfl) (fun i hi => col_wf (ff13 i hi) (j := 1) rfl) x14 wx14 x15 wx15 x16 wx16 n17 hn17 (icol f17 0) (fun i hi => col_wf (ff17 i hi) (j := 0) rfl) x18 wx18 x19 wx19 x20 wx20 x21 wx21 x22 wx22 x23 wx23) rfl hrel (by exact ⟨⟨_, rfl, ⟨rfl, rfl, rfl, rfl, rfl, rfl, rfl, rfl, (hr9 _ _ 0 rfl (by simp)).1, rfl, rfl, rfl, (hr13 _ _ 1 rfl (by simp)).1, rfl, rfl, rfl, (hr17 _ _ 2 rfl (by simp)).1, rfl, rfl, rfl, rfl, rfl, rfl, trivial⟩⟩, trivial⟩)).mono fun e W' he => ?_
  obtain ⟨rfl, bel⟩ := he
  exact ⟨_, rfl, _, _, _, [], _, [], hW', trodAll_mk1 (shut_bool Try.underlying4 _), (trodAll_cons_mk (Below.trod laidOut (by kernel_rfl) (of_decide_eq_true (by kernel_rfl)) k0_ bel lt0) trodAll_mk0), rfl, bel.frame _, fun h => by cases h⟩
theorem over : Rows.fnExactWordPackRow.holds Try.pinned (OpenSpec.ofChange Rows.fnExactWordPackSpec) :=
  OpenClaim.holds_of_wide 7 Try.f7 rfl rfl rfl rfl rfl rfl rfl ⟨rfl, rfl, rfl, rfl, rfl⟩ rfl rfl rfl rfl rfl (by kernel_rfl) Try.func7 (by kernel_rfl)
    (of_decide_eq_true (by kernel_rfl)) (by unfold Func.isWrapper; first | (rw [if_pos (by decide +kernel)]; kernel_rfl) | (rw [if_neg (by decide +kernel)]; exact ⟨rfl, rfl⟩))
    (fun os started H enc _ => lifted os started H enc)
theorem proved : Rows.FnExactWordPackSaid := over
#print axioms proved
end Go.Proofs.Ytnlohhgcimcmnaa.fnExactWordPack
namespace Go.Proofs.Ytnlohhgcimcmnaa
/-- The row, under a short name, for the claim. -/
theorem fnExactWordPack_holds : Rows.FnExactWordPackSaid := fnExactWordPack.proved
end Go.Proofs.Ytnlohhgcimcmnaa
