/- The law FnExactNodeOk holds of the given program, at every input: it returns true, and its arguments read afterwards as before. No condition. -/
import Derived.Test.YtjdglheacigbnaaGreatRows
import Derived.Test.YtjdglheacigbnaaGreatEWFnExactNodeOk
import Derived.WalkKit
import Derived.ProofKit
import Derived.OpenShut
import Derived.ShutString
import Derived.ChangeOld
import Derived.Below
import Derived.SizedLaws
namespace Go.Proofs.YtjdglheacigbnaaGreat.fnExactNodeOk
open Go.ChangeShapes Go.WideShapes Go.ChangeAt Go.RowKit Go.Proofs.YtjdglheacigbnaaGreatE
open Go.ChangeMaps (open_string shut_string)
theorem flat4 : FlatT Tryz.prog 4 [.bool] := FlatT.bool Tryz.underlying4 (by kernel_rfl)
theorem opens4 : OpenT Tryz.prog 4 [.flat [.bool]] := OpenT.flat flat4
theorem openss4 : OpenT2 Tryz.prog 4 [.tl (.flat [.bool])] := OpenT2.of opens4
theorem flat3 : FlatT Tryz.prog 3 [.int .i64] := FlatT.int Tryz.underlying3 (by kernel_rfl)
theorem opens3 : OpenT Tryz.prog 3 [.flat [.int .i64]] := OpenT.flat flat3
theorem flat9 : FlatT Tryz.prog 9 [.str] := FlatT.str Tryz.underlying9 (by kernel_rfl)
theorem flat98 : FlatT Tryz.prog 98 [.int .i64, .int .i64, .int .i64, .int .i64, .int .i64, .str] := FlatT.struct Tryz.underlying98 (by kernel_rfl) (FlatFs.cons (ks := [.int .i64]) (ks' := [.int .i64, .int .i64, .int .i64, .int .i64, .str]) rfl flat3 (FlatFs.cons (ks := [.int .i64]) (ks' := [.int .i64, .int .i64, .int .i64, .str]) rfl flat3 (FlatFs.cons (ks := [.int .i64]) (ks' := [.int .i64, .int .i64, .str]) rfl flat3 (FlatFs.cons (ks := [.int .i64]) (ks' := [.int .i64, .str]) rfl flat3 (FlatFs.cons (ks := [.int .i64]) (ks' := [.str]) rfl flat3 (FlatFs.cons (ks := [.str]) (ks' := []) rfl flat9 FlatFs.nil))))))
theorem flat100 : FlatT Tryz.prog 100 [.int .i64, .int .i64, .int .i64, .int .i64, .int .i64, .int .i64, .str] := FlatT.struct Tryz.underlying100 (by kernel_rfl) (FlatFs.cons (ks := [.int .i64]) (ks' := [.int .i64, .int .i64, .int .i64, .int .i64, .int .i64, .str]) rfl flat3 (FlatFs.cons (ks := [.int .i64, .int .i64, .int .i64, .int .i64, .int .i64, .str]) (ks' := []) rfl flat98 FlatFs.nil))
theorem opens22 : OpenT Tryz.prog 22 [.sl [.int .i64, .int .i64, .int .i64, .int .i64, .int .i64, .int .i64, .str]] := OpenT.slice Tryz.underlying22 (by kernel_rfl) flat100 (by decide)
theorem opens23 : OpenT Tryz.prog 23 [.sl [.int .i64]] := OpenT.slice Tryz.underlying23 (by kernel_rfl) flat3 (by decide)
theorem opens25 : OpenT Tryz.prog 25 [.flat [.int .i64], .flat [.int .i64], .flat [.int .i64], .sl [.int .i64, .int .i64, .int .i64, .int .i64, .int .i64, .int .i64, .str], .flat [.int .i64], .flat [.int .i64], .sl [.int .i64], .sl [.int .i64], .flat [.int .i64]] := OpenT.struct Tryz.underlying25 (by kernel_rfl) (OpenFs.cons (Ts := [.flat [.int .i64]]) (Us := [.flat [.int .i64], .flat [.int .i64], .sl [.int .i64, .int .i64, .int .i64, .int .i64, .int .i64, .int .i64, .str], .flat [.int .i64], .flat [.int .i64], .sl [.int .i64], .sl [.int .i64], .flat [.int .i64]]) rfl opens3 (OpenFs.cons (Ts := [.flat [.int .i64]]) (Us := [.flat [.int .i64], .sl [.int .i64, .int .i64, .int .i64, .int .i64, .int .i64, .int .i64, .str], .flat [.int .i64], .flat [.int .i64], .sl [.int .i64], .sl [.int .i64], .flat [.int .i64]]) rfl opens3 (OpenFs.cons (Ts := [.flat [.int .i64]]) (Us := [.sl [.int .i64, .int .i64, .int .i64, .int .i64, .int .i64, .int .i64, .str], .flat [.int .i64], .flat [.int .i64], .sl [.int .i64], .sl [.int .i64], .flat [.int .i64]]) rfl opens3 (OpenFs.cons (Ts := [.sl [.int .i64, .int .i64, .int .i64, .int .i64, .int .i64, .int .i64, .str]]) (Us := [.flat [.int .i64], .flat [.int .i64], .sl [.int .i64], .sl [.int .i64], .flat [.int .i64]]) rfl opens22 (OpenFs.cons (Ts := [.flat [.int .i64]]) (Us := [.flat [.int .i64], .sl [.int .i64], .sl [.int .i64], .flat [.int .i64]]) rfl opens3 (OpenFs.cons (Ts := [.flat [.int .i64]]) (Us := [.sl [.int .i64], .sl [.int .i64], .flat [.int .i64]]) rfl opens3 (OpenFs.cons (Ts := [.sl [.int .i64]]) (Us := [.sl [.int .i64], .flat [.int .i64]]) rfl opens23 (OpenFs.cons (Ts := [.sl [.int .i64]]) (Us := [.flat [.int .i64]]) rfl opens23 (OpenFs.cons (Ts := [.flat [.int .i64]]) (Us := []) rfl opens3 OpenFs.nil)))))))))
theorem openss25 : OpenT2 Tryz.prog 25 [.tl (.flat [.int .i64]), .tl (.flat [.int .i64]), .tl (.flat [.int .i64]), .tl (.sl [.int .i64, .int .i64, .int .i64, .int .i64, .int .i64, .int .i64, .str]), .tl (.flat [.int .i64]), .tl (.flat [.int .i64]), .tl (.sl [.int .i64]), .tl (.sl [.int .i64]), .tl (.flat [.int .i64])] := OpenT2.of opens25
theorem openss3 : OpenT2 Tryz.prog 3 [.tl (.flat [.int .i64])] := OpenT2.of opens3
theorem openss23 : OpenT2 Tryz.prog 23 [.tl (.sl [.int .i64])] := OpenT2.of opens23
theorem flat125 : FlatT Tryz.prog 125 [.int .i64, .int .i64] := FlatT.struct Tryz.underlying125 (by kernel_rfl) (FlatFs.cons (ks := [.int .i64]) (ks' := [.int .i64]) rfl flat3 (FlatFs.cons (ks := [.int .i64]) (ks' := []) rfl flat3 FlatFs.nil))
theorem opens26 : OpenT Tryz.prog 26 [.sl [.int .i64, .int .i64]] := OpenT.slice Tryz.underlying26 (by kernel_rfl) flat125 (by decide)
theorem openss26 : OpenT2 Tryz.prog 26 [.tl (.sl [.int .i64, .int .i64])] := OpenT2.of opens26
theorem opens103 : OpenT Tryz.prog 103 [.flat [.int .i64], .flat [.int .i64], .sl [.int .i64, .int .i64]] := OpenT.struct Tryz.underlying103 (by kernel_rfl) (OpenFs.cons (Ts := [.flat [.int .i64]]) (Us := [.flat [.int .i64], .sl [.int .i64, .int .i64]]) rfl opens3 (OpenFs.cons (Ts := [.flat [.int .i64]]) (Us := [.sl [.int .i64, .int .i64]]) rfl opens3 (OpenFs.cons (Ts := [.sl [.int .i64, .int .i64]]) (Us := []) rfl opens26 OpenFs.nil)))
theorem openss27 : OpenT2 Tryz.prog 27 [.sn [.flat [.int .i64], .flat [.int .i64], .sl [.int .i64, .int .i64]]] := OpenT2.slice Tryz.underlying27 (by kernel_rfl) opens103 (by decide)
theorem opens106 : OpenT Tryz.prog 106 [.flat [.int .i64], .flat [.int .i64], .sl [.int .i64, .int .i64], .sl [.int .i64]] := OpenT.struct Tryz.underlying106 (by kernel_rfl) (OpenFs.cons (Ts := [.flat [.int .i64]]) (Us := [.flat [.int .i64], .sl [.int .i64, .int .i64], .sl [.int .i64]]) rfl opens3 (OpenFs.cons (Ts := [.flat [.int .i64]]) (Us := [.sl [.int .i64, .int .i64], .sl [.int .i64]]) rfl opens3 (OpenFs.cons (Ts := [.sl [.int .i64, .int .i64]]) (Us := [.sl [.int .i64]]) rfl opens26 (OpenFs.cons (Ts := [.sl [.int .i64]]) (Us := []) rfl opens23 OpenFs.nil))))
theorem openss28 : OpenT2 Tryz.prog 28 [.sn [.flat [.int .i64], .flat [.int .i64], .sl [.int .i64, .int .i64], .sl [.int .i64]]] := OpenT2.slice Tryz.underlying28 (by kernel_rfl) opens106 (by decide)
theorem opens109 : OpenT Tryz.prog 109 [.flat [.int .i64], .flat [.int .i64], .sl [.int .i64], .sl [.int .i64, .int .i64]] := OpenT.struct Tryz.underlying109 (by kernel_rfl) (OpenFs.cons (Ts := [.flat [.int .i64]]) (Us := [.flat [.int .i64], .sl [.int .i64], .sl [.int .i64, .int .i64]]) rfl opens3 (OpenFs.cons (Ts := [.flat [.int .i64]]) (Us := [.sl [.int .i64], .sl [.int .i64, .int .i64]]) rfl opens3 (OpenFs.cons (Ts := [.sl [.int .i64]]) (Us := [.sl [.int .i64, .int .i64]]) rfl opens23 (OpenFs.cons (Ts := [.sl [.int .i64, .int .i64]]) (Us := []) rfl opens26 OpenFs.nil))))
theorem openss29 : OpenT2 Tryz.prog 29 [.sn [.flat [.int .i64], .flat [.int .i64], .sl [.int .i64], .sl [.int .i64, .int .i64]]] := OpenT2.slice Tryz.underlying29 (by kernel_rfl) opens109 (by decide)
theorem opens112 : OpenT Tryz.prog 112 [.flat [.int .i64], .flat [.int .i64], .flat [.int .i64], .sl [.int .i64]] := OpenT.struct Tryz.underlying112 (by kernel_rfl) (OpenFs.cons (Ts := [.flat [.int .i64]]) (Us := [.flat [.int .i64], .flat [.int .i64], .sl [.int .i64]]) rfl opens3 (OpenFs.cons (Ts := [.flat [.int .i64]]) (Us := [.flat [.int .i64], .sl [.int .i64]]) rfl opens3 (OpenFs.cons (Ts := [.flat [.int .i64]]) (Us := [.sl [.int .i64]]) rfl opens3 (OpenFs.cons (Ts := [.sl [.int .i64]]) (Us := []) rfl opens23 OpenFs.nil))))
theorem openss30 : OpenT2 Tryz.prog 30 [.sn [.flat [.int .i64], .flat [.int .i64], .flat [.int .i64], .sl [.int .i64]]] := OpenT2.slice Tryz.underlying30 (by kernel_rfl) opens112 (by decide)
theorem openss32 : OpenT2 Tryz.prog 32 [.tl (.flat [.int .i64]), .tl (.flat [.int .i64]), .tl (.sl [.int .i64]), .tl (.sl [.int .i64, .int .i64]), .sn [.flat [.int .i64], .flat [.int .i64], .sl [.int .i64, .int .i64]], .sn [.flat [.int .i64], .flat [.int .i64], .sl [.int .i64, .int .i64], .sl [.int .i64]], .sn [.flat [.int .i64], .flat [.int .i64], .sl [.int .i64], .sl [.int .i64, .int .i64]], .sn [.flat [.int .i64], .flat [.int .i64], .flat [.int .i64], .sl [.int .i64]]] := OpenT2.struct Tryz.underlying32 (by kernel_rfl) (OpenFs2.cons (Ts := [.tl (.flat [.int .i64])]) (Us := [.tl (.flat [.int .i64]), .tl (.sl [.int .i64]), .tl (.sl [.int .i64, .int .i64]), .sn [.flat [.int .i64], .flat [.int .i64], .sl [.int .i64, .int .i64]], .sn [.flat [.int .i64], .flat [.int .i64], .sl [.int .i64, .int .i64], .sl [.int .i64]], .sn [.flat [.int .i64], .flat [.int .i64], .sl [.int .i64], .sl [.int .i64, .int .i64]], .sn [.flat [.int .i64], .flat [.int .i64], .flat [.int .i64], .sl [.int .i64]]]) rfl openss3 (OpenFs2.cons (Ts := [.tl (.flat [.int .i64])]) (Us := [.tl (.sl [.int .i64]), .tl (.sl [.int .i64, .int .i64]), .sn [.flat [.int .i64], .flat [.int .i64], .sl [.int .i64, .int .i64]], .sn [.flat [.int .i64], .flat [.int .i64], .sl [.int .i64, .int .i64], .sl [.int .i64]], .sn [.flat [.int .i64], .flat [.int .i64], .sl [.int .i64], .sl [.int .i64, .int .i64]], .sn [.flat [.int .i64], .flat [.int .i64], .flat [.int .i64], .sl [.int .i64]]]) rfl openss3 (OpenFs2.cons (Ts := [.tl (.sl [.int .i64])]) (Us := [.tl (.sl [.int .i64, .int .i64]), .sn [.flat [.int .i64], .flat [.int .i64], .sl [.int .i64, .int .i64]], .sn [.flat [.int .i64], .flat [.int .i64], .sl [.int .i64, .int .i64], .sl [.int .i64]], .sn [.flat [.int .i64], .flat [.int .i64], .sl [.int .i64], .sl [.int .i64, .int .i64]], .sn [.flat [.int .i64], .flat [.int .i64], .flat [.int .i64], .sl [.int .i64]]]) rfl openss23 (OpenFs2.cons (Ts := [.tl (.sl [.int .i64, .int .i64])]) (Us := [.sn [.flat [.int .i64], .flat [.int .i64], .sl [.int .i64, .int .i64]], .sn [.flat [.int .i64], .flat [.int .i64], .sl [.int .i64, .int .i64], .sl [.int .i64]], .sn [.flat [.int .i64], .flat [.int .i64], .sl [.int .i64], .sl [.int .i64, .int .i64]], .sn [.flat [.int .i64], .flat [.int .i64], .flat [.int .i64], .sl [.int .i64]]]) rfl openss26 (OpenFs2.cons (Ts := [.sn [.flat [.int .i64], .flat [.int .i64], .sl [.int .i64, .int .i64]]]) (Us := [.sn [.flat [.int .i64], .flat [.int .i64], .sl [.int .i64, .int .i64], .sl [.int .i64]], .sn [.flat [.int .i64], .flat [.int .i64], .sl [.int .i64], .sl [.int .i64, .int .i64]], .sn [.flat [.int .i64], .flat [.int .i64], .flat [.int .i64], .sl [.int .i64]]]) rfl openss27 (OpenFs2.cons (Ts := [.sn [.flat [.int .i64], .flat [.int .i64], .sl [.int .i64, .int .i64], .sl [.int .i64]]]) (Us := [.sn [.flat [.int .i64], .flat [.int .i64], .sl [.int .i64], .sl [.int .i64, .int .i64]], .sn [.flat [.int .i64], .flat [.int .i64], .flat [.int .i64], .sl [.int .i64]]]) rfl openss28 (OpenFs2.cons (Ts := [.sn [.flat [.int .i64], .flat [.int .i64], .sl [.int .i64], .sl [.int .i64, .int .i64]]]) (Us := [.sn [.flat [.int .i64], .flat [.int .i64], .flat [.int .i64], .sl [.int .i64]]]) rfl openss29 (OpenFs2.cons (Ts := [.sn [.flat [.int .i64], .flat [.int .i64], .flat [.int .i64], .sl [.int .i64]]]) (Us := []) rfl openss30 OpenFs2.nil))))))))
theorem openss34 : OpenT2 Tryz.prog 34 [.tl (.flat [.bool]), .tl (.flat [.int .i64]), .tl (.flat [.int .i64]), .tl (.flat [.int .i64]), .tl (.sl [.int .i64, .int .i64, .int .i64, .int .i64, .int .i64, .int .i64, .str]), .tl (.flat [.int .i64]), .tl (.flat [.int .i64]), .tl (.sl [.int .i64]), .tl (.sl [.int .i64]), .tl (.flat [.int .i64]), .tl (.flat [.int .i64]), .tl (.flat [.int .i64]), .tl (.sl [.int .i64]), .tl (.sl [.int .i64, .int .i64]), .sn [.flat [.int .i64], .flat [.int .i64], .sl [.int .i64, .int .i64]], .sn [.flat [.int .i64], .flat [.int .i64], .sl [.int .i64, .int .i64], .sl [.int .i64]], .sn [.flat [.int .i64], .flat [.int .i64], .sl [.int .i64], .sl [.int .i64, .int .i64]], .sn [.flat [.int .i64], .flat [.int .i64], .flat [.int .i64], .sl [.int .i64]]] := OpenT2.struct Tryz.underlying34 (by kernel_rfl) (OpenFs2.cons (Ts := [.tl (.flat [.bool])]) (Us := [.tl (.flat [.int .i64]), .tl (.flat [.int .i64]), .tl (.flat [.int .i64]), .tl (.sl [.int .i64, .int .i64, .int .i64, .int .i64, .int .i64, .int .i64, .str]), .tl (.flat [.int .i64]), .tl (.flat [.int .i64]), .tl (.sl [.int .i64]), .tl (.sl [.int .i64]), .tl (.flat [.int .i64]), .tl (.flat [.int .i64]), .tl (.flat [.int .i64]), .tl (.sl [.int .i64]), .tl (.sl [.int .i64, .int .i64]), .sn [.flat [.int .i64], .flat [.int .i64], .sl [.int .i64, .int .i64]], .sn [.flat [.int .i64], .flat [.int .i64], .sl [.int .i64, .int .i64], .sl [.int .i64]], .sn [.flat [.int .i64], .flat [.int .i64], .sl [.int .i64], .sl [.int .i64, .int .i64]], .sn [.flat [.int .i64], .flat [.int .i64], .flat [.int .i64], .sl [.int .i64]]]) rfl openss4 (OpenFs2.cons (Ts := [.tl (.flat [.int .i64]), .tl (.flat [.int .i64]), .tl (.flat [.int .i64]), .tl (.sl [.int .i64, .int .i64, .int .i64, .int .i64, .int .i64, .int .i64, .str]), .tl (.flat [.int .i64]), .tl (.flat [.int .i64]), .tl (.sl [.int .i64]), .tl (.sl [.int .i64]), .tl (.flat [.int .i64])]) (Us := [.tl (.flat [.int .i64]), .tl (.flat [.int .i64]), .tl (.sl [.int .i64]), .tl (.sl [.int .i64, .int .i64]), .sn [.flat [.int .i64], .flat [.int .i64], .sl [.int .i64, .int .i64]], .sn [.flat [.int .i64], .flat [.int .i64], .sl [.int .i64, .int .i64], .sl [.int .i64]], .sn [.flat [.int .i64], .flat [.int .i64], .sl [.int .i64], .sl [.int .i64, .int .i64]], .sn [.flat [.int .i64], .flat [.int .i64], .flat [.int .i64], .sl [.int .i64]]]) rfl openss25 (OpenFs2.cons (Ts := [.tl (.flat [.int .i64]), .tl (.flat [.int .i64]), .tl (.sl [.int .i64]), .tl (.sl [.int .i64, .int .i64]), .sn [.flat [.int .i64], .flat [.int .i64], .sl [.int .i64, .int .i64]], .sn [.flat [.int .i64], .flat [.int .i64], .sl [.int .i64, .int .i64], .sl [.int .i64]], .sn [.flat [.int .i64], .flat [.int .i64], .sl [.int .i64], .sl [.int .i64, .int .i64]], .sn [.flat [.int .i64], .flat [.int .i64], .flat [.int .i64], .sl [.int .i64]]]) (Us := []) rfl openss32 OpenFs2.nil)))
theorem own : ownKnob Tryz.prog.godebug = none := by kernel_rfl
theorem laidOut : laidOutB Tryz.prog = true := by kernel_rfl
set_option maxRecDepth 100000 in
theorem lifted (os : Os) (started : os.Started) (H : Type) (enc : TypeId × Value → H) :
    ReturnsInHanded {} Tryz.checked os 3 .any (Rows.fnExactNodeOkSpec.pre6 enc Tryz.prog Tryz.f3 Rows.fnExactNodeOkRow.domain false) (Rows.fnExactNodeOkSpec.post enc Tryz.prog Tryz.f3 false true false false) := by
  refine returnsInHanded_of_change_sized (C := Tryz.checked) own started (by kernel_rfl) Tryz.func3
    (ChangeSpec.witness6 (enc := enc) (C := Tryz.checked) false ⟨#[], #[.agg #[.bool false, .int .i64 0, .int .i64 0, .int .i64 0, .slice none 0 0, .int .i64 0, .int .i64 0, .slice none 0 0, .slice none 0 0, .int .i64 0, .int .i64 0, .int .i64 0, .slice none 0 0, .slice none 0 0, .slice none 0 0, .slice none 0 0, .slice none 0 0, .slice none 0 0]], []⟩ 8 (by kernel_rfl) (by kernel_rfl) (by kernel_rfl) (by kernel_rfl)) ?_
  intro W base args ds gs before hval0 hW hcnd hsz0 _
  have hval : ∀ (j : Nat) t v, Tryz.f3.params[j]? = some t → args[j]? = some v → Value.okWide Tryz.prog W .any base t v := hval0
  have hW' := hW
  obtain ⟨p, q, hA0, hV, rfl, hfz, hnd⟩ := hW
  have hA : DataW.TrodAll enc Tryz.prog W 0 (fun _ => true) true Tryz.f3.params.toList args.toList ds p := hA0
  rw [Tryz.params3] at hA hval
  obtain ⟨v0, vs0, d0, ds0, p0, q0, hargs, rfl, rfl, h0, r0⟩ := trodAll_cons hA
  obtain ⟨rfl, rfl, rfl⟩ := trodAll_nil r0
  obtain rfl : args = #[v0] := by cases args; simp_all
  obtain ⟨rfl, rfl⟩ := trodVars_none hV
  have k0_ := h0
  have lt0 : ∀ x ∈ p0, x.block < W.heap.size := by obtain ⟨m, hm⟩ := k0_; exact DataW.trod_lt m _ _ _ hm
  obtain ⟨cs0, rfl, hcs0⟩ := okWide_struct Tryz.underlying34 (hval 0 34 v0 rfl rfl)
  obtain ⟨fuel0, hf0⟩ := h0
  have fit0 : fitL2 W [.tl (.flat [.bool]), .tl (.flat [.int .i64]), .tl (.flat [.int .i64]), .tl (.flat [.int .i64]), .tl (.sl [.int .i64, .int .i64, .int .i64, .int .i64, .int .i64, .int .i64, .str]), .tl (.flat [.int .i64]), .tl (.flat [.int .i64]), .tl (.sl [.int .i64]), .tl (.sl [.int .i64]), .tl (.flat [.int .i64]), .tl (.flat [.int .i64]), .tl (.flat [.int .i64]), .tl (.sl [.int .i64]), .tl (.sl [.int .i64, .int .i64]), .sn [.flat [.int .i64], .flat [.int .i64], .sl [.int .i64, .int .i64]], .sn [.flat [.int .i64], .flat [.int .i64], .sl [.int .i64, .int .i64], .sl [.int .i64]], .sn [.flat [.int .i64], .flat [.int .i64], .sl [.int .i64], .sl [.int .i64, .int .i64]], .sn [.flat [.int .i64], .flat [.int .i64], .flat [.int .i64], .sl [.int .i64]]] cs0.toList := openss34.op hf0
  obtain ⟨l1, m1, e1, g1, t1⟩ := fit0
  obtain ⟨l2, m2, e2, g2, t2⟩ := t1
  obtain ⟨l3, m3, e3, g3, t3⟩ := t2
  obtain ⟨l4, m4, e4, g4, t4⟩ := t3
  obtain ⟨l5, m5, e5, g5, t5⟩ := t4
  obtain ⟨l6, m6, e6, g6, t6⟩ := t5
  obtain ⟨l7, m7, e7, g7, t7⟩ := t6
  obtain ⟨l8, m8, e8, g8, t8⟩ := t7
  obtain ⟨l9, m9, e9, g9, t9⟩ := t8
  obtain ⟨l10, m10, e10, g10, t10⟩ := t9
  obtain ⟨l11, m11, e11, g11, t11⟩ := t10
  obtain ⟨l12, m12, e12, g12, t12⟩ := t11
  obtain ⟨l13, m13, e13, g13, t13⟩ := t12
  obtain ⟨l14, m14, e14, g14, t14⟩ := t13
  obtain ⟨l15, m15, e15, g15, t15⟩ := t14
  obtain ⟨l16, m16, e16, g16, t16⟩ := t15
  obtain ⟨l17, m17, e17, g17, t17⟩ := t16
  obtain ⟨l18, m18, e18, g18, t18⟩ := t17
  have z0 : m18 = [] := t18
  obtain ⟨x1, rfl⟩ := Flat.bool g1
  obtain ⟨x2, rfl, wx2⟩ := Flat.int g2
  obtain ⟨x3, rfl, wx3⟩ := Flat.int g3
  obtain ⟨x4, rfl, wx4⟩ := Flat.int g4
  obtain ⟨y5, rfl, n5, f5, s5, hn5, ff5, hr5⟩ := g5
  obtain ⟨x6, rfl, wx6⟩ := Flat.int g6
  obtain ⟨x7, rfl, wx7⟩ := Flat.int g7
  obtain ⟨y8, rfl, n8, f8, s8, hn8, ff8, hr8⟩ := g8
  obtain ⟨y9, rfl, n9, f9, s9, hn9, ff9, hr9⟩ := g9
  obtain ⟨x10, rfl, wx10⟩ := Flat.int g10
  obtain ⟨x11, rfl, wx11⟩ := Flat.int g11
  obtain ⟨x12, rfl, wx12⟩ := Flat.int g12
  obtain ⟨y13, rfl, n13, f13, s13, hn13, ff13, hr13⟩ := g13
  obtain ⟨y14, rfl, n14, f14, s14, hn14, ff14, hr14⟩ := g14
  obtain ⟨y15, rfl, n15, C15_0, s15, hn15, hz15, hC15, hl15, hcc15⟩ := g15
  have fC15_0 := fun i hi => (hC15 i hi).1
  obtain ⟨x15_0, C15_1, wx15_0, fC15_1, eC15_0⟩ := fitL.ints fC15_0
  obtain ⟨x15_1, C15_2, wx15_1, fC15_2, eC15_1⟩ := fitL.ints fC15_1
  obtain ⟨len15_2, gg15_2, sp15_2, C15_3, hlen15_2, hgg15_2, fC15_3, eC15_2⟩ := fitL.slc fC15_2
  obtain ⟨y16, rfl, n16, C16_0, s16, hn16, hz16, hC16, hl16, hcc16⟩ := g16
  have fC16_0 := fun i hi => (hC16 i hi).1
  obtain ⟨x16_0, C16_1, wx16_0, fC16_1, eC16_0⟩ := fitL.ints fC16_0
  obtain ⟨x16_1, C16_2, wx16_1, fC16_2, eC16_1⟩ := fitL.ints fC16_1
  obtain ⟨len16_2, gg16_2, sp16_2, C16_3, hlen16_2, hgg16_2, fC16_3, eC16_2⟩ := fitL.slc fC16_2
  obtain ⟨len16_3, gg16_3, sp16_3, C16_4, hlen16_3, hgg16_3, fC16_4, eC16_3⟩ := fitL.slc fC16_3
  obtain ⟨y17, rfl, n17, C17_0, s17, hn17, hz17, hC17, hl17, hcc17⟩ := g17
  have fC17_0 := fun i hi => (hC17 i hi).1
  obtain ⟨x17_0, C17_1, wx17_0, fC17_1, eC17_0⟩ := fitL.ints fC17_0
  obtain ⟨x17_1, C17_2, wx17_1, fC17_2, eC17_1⟩ := fitL.ints fC17_1
  obtain ⟨len17_2, gg17_2, sp17_2, C17_3, hlen17_2, hgg17_2, fC17_3, eC17_2⟩ := fitL.slc fC17_2
  obtain ⟨len17_3, gg17_3, sp17_3, C17_4, hlen17_3, hgg17_3, fC17_4, eC17_3⟩ := fitL.slc fC17_3
  obtain ⟨y18, rfl, n18, C18_0, s18, hn18, hz18, hC18, hl18, hcc18⟩ := g18
  have fC18_0 := fun i hi => (hC18 i hi).1
  obtain ⟨x18_0, C18_1, wx18_0, fC18_1, eC18_0⟩ := fitL.ints fC18_0
  obtain ⟨x18_1, C18_2, wx18_1, fC18_2, eC18_1⟩ := fitL.ints fC18_1
  obtain ⟨x18_2, C18_3, wx18_2, fC18_3, eC18_2⟩ := fitL.ints fC18_2
  obtain ⟨len18_3, gg18_3, sp18_3, C18_4, hlen18_3, hgg18_3, fC18_4, eC18_3⟩ := fitL.slc fC18_3
  obtain rfl : cs0 = #[.bool x1, .int .i64 x2, .int .i64 x3, .int .i64 x4, y5, .int .i64 x6, .int .i64 x7, y8, y9, .int .i64 x10, .int .i64 x11, .int .i64 x12, y13, y14, y15, y16, y17, y18] := by rw [← Array.toArray_toList (xs := cs0), e1, e2, e3, e4, e5, e6, e7, e8, e9, e10, e11, e12, e13, e14, e15, e16, e17, e18, z0]; rfl
  let LL : List (Ent × (Nat → Spot)) := [(.one false (.arr 7 n5 (colsFrom f5 0 [.int .i64, .int .i64, .int .i64, .int .i64, .int .i64, .int .i64, .str])), fun _ => s5), (.one false (.arr 1 n8 (colsFrom f8 0 [.int .i64])), fun _ => s8), (.one false (.arr 1 n9 (colsFrom f9 0 [.int .i64])), fun _ => s9), (.one false (.arr 1 n13 (colsFrom f13 0 [.int .i64])), fun _ => s13), (.one false (.arr 2 n14 (colsFrom f14 0 [.int .i64, .int .i64])), fun _ => s14), (.one false (.arr 3 n15 fun i => [.i64 (x15_0 i), .i64 (x15_1 i), .sl 6 i 0 (len15_2 i) 0]), fun _ => s15), (.fam false n15 fun q => .arr 2 (len15_2 q) (colsFrom (gg15_2 q) 0 [.int .i64, .int .i64]), sp15_2), (.one false (.arr 4 n16 fun i => [.i64 (x16_0 i), .i64 (x16_1 i), .sl 8 i 0 (len16_2 i) 0, .sl 9 i 0 (len16_3 i) 0]), fun _ => s16), (.fam false n16 fun q => .arr 2 (len16_2 q) (colsFrom (gg16_2 q) 0 [.int .i64, .int .i64]), sp16_2), (.fam false n16 fun q => .arr 1 (len16_3 q) (colsFrom (gg16_3 q) 0 [.int .i64]), sp16_3), (.one false (.arr 4 n17 fun i => [.i64 (x17_0 i), .i64 (x17_1 i), .sl 11 i 0 (len17_2 i) 0, .sl 12 i 0 (len17_3 i) 0]), fun _ => s17), (.fam false n17 fun q => .arr 1 (len17_2 q) (colsFrom (gg17_2 q) 0 [.int .i64]), sp17_2), (.fam false n17 fun q => .arr 2 (len17_3 q) (colsFrom (gg17_3 q) 0 [.int .i64, .int .i64]), sp17_3), (.one false (.arr 4 n18 fun i => [.i64 (x18_0 i), .i64 (x18_1 i), .i64 (x18_2 i), .sl 14 i 0 (len18_3 i) 0]), fun _ => s18), (.fam false n18 fun q => .arr 1 (len18_3 q) (colsFrom (gg18_3 q) 0 [.int .i64]), sp18_3)]
  have hrel : HRel (roM2 LL) (roH2 LL) W := HRel.ro2 (by
    intro b p hp
    match b, hp with
    | 0, hp =>
      cases hp
      refine ⟨rfl, fun q hq => ?_⟩
      obtain rfl : q = 0 := by have : q < 1 := hq; omega
      exact (hr5 _ (roM2 LL) 0 rfl (by simp [LL])).2.cols ff5
    | 1, hp =>
      cases hp
      refine ⟨rfl, fun q hq => ?_⟩
      obtain rfl : q = 0 := by have : q < 1 := hq; omega
      exact (hr8 _ (roM2 LL) 1 rfl (by simp [LL])).2.cols ff8
    | 2, hp =>
      cases hp
      refine ⟨rfl, fun q hq => ?_⟩
      obtain rfl : q = 0 := by have : q < 1 := hq; omega
      exact (hr9 _ (roM2 LL) 2 rfl (by simp [LL])).2.cols ff9
    | 3, hp =>
      cases hp
      refine ⟨rfl, fun q hq => ?_⟩
      obtain rfl : q = 0 := by have : q < 1 := hq; omega
      exact (hr13 _ (roM2 LL) 3 rfl (by simp [LL])).2.cols ff13
    | 4, hp =>
      cases hp
      refine ⟨rfl, fun q hq => ?_⟩
      obtain rfl : q = 0 := by have : q < 1 := hq; omega
      exact (hr14 _ (roM2 LL) 4 rfl (by simp [LL])).2.cols ff14
    | 5, hp =>
      cases hp
      refine ⟨rfl, fun q hq => ?_⟩
      obtain rfl : q = 0 := by have : q < 1 := hq; omega
      refine RowOk.sn hz15 (fun i hi => (hC15 i hi).2) hcc15 (fun i hi => ?_)
      rw [eC15_0 i hi]
      rw [eC15_1 i hi]
      obtain ⟨v15_2, ev15_2, hv15_2, _⟩ := eC15_2 i hi; rw [ev15_2]
      rw [show C15_3 i = [] from fC15_3 i hi]
      exact ⟨rfl, rfl, hv15_2 _ _ 6 rfl (by simp [LL]), trivial⟩
    | 6, hp =>
      cases hp
      refine ⟨rfl, fun q hq => ?_⟩
      obtain ⟨_, _, _, hrr⟩ := eC15_2 q hq
      exact (hrr _ _).cols (hgg15_2 q hq)
    | 7, hp =>
      cases hp
      refine ⟨rfl, fun q hq => ?_⟩
      obtain rfl : q = 0 := by have : q < 1 := hq; omega
      refine RowOk.sn hz16 (fun i hi => (hC16 i hi).2) hcc16 (fun i hi => ?_)
      rw [eC16_0 i hi]
      rw [eC16_1 i hi]
      obtain ⟨v16_2, ev16_2, hv16_2, _⟩ := eC16_2 i hi; rw [ev16_2]
      obtain ⟨v16_3, ev16_3, hv16_3, _⟩ := eC16_3 i hi; rw [ev16_3]
      rw [show C16_4 i = [] from fC16_4 i hi]
      exact ⟨rfl, rfl, hv16_2 _ _ 8 rfl (by simp [LL]), hv16_3 _ _ 9 rfl (by simp [LL]), trivial⟩
    | 8, hp =>
      cases hp
      refine ⟨rfl, fun q hq => ?_⟩
      obtain ⟨_, _, _, hrr⟩ := eC16_2 q hq
      exact (hrr _ _).cols (hgg16_2 q hq)
    | 9, hp =>
      cases hp
      refine ⟨rfl, fun q hq => ?_⟩
      obtain ⟨_, _, _, hrr⟩ := eC16_3 q hq
      exact (hrr _ _).cols (hgg16_3 q hq)
    | 10, hp =>
      cases hp
      refine ⟨rfl, fun q hq => ?_⟩
      obtain rfl : q = 0 := by have : q < 1 := hq; omega
      refine RowOk.sn hz17 (fun i hi => (hC17 i hi).2) hcc17 (fun i hi => ?_)
      rw [eC17_0 i hi]
      rw [eC17_1 i hi]
      obtain ⟨v17_2, ev17_2, hv17_2, _⟩ := eC17_2 i hi; rw [ev17_2]
      obtain ⟨v17_3, ev17_3, hv17_3, _⟩ := eC17_3 i hi; rw [ev17_3]
      rw [show C17_4 i = [] from fC17_4 i hi]
      exact ⟨rfl, rfl, hv17_2 _ _ 11 rfl (by simp [LL]), hv17_3 _ _ 12 rfl (by simp [LL]), trivial⟩
    | 11, hp =>
      cases hp
      refine ⟨rfl, fun q hq => ?_⟩
      obtain ⟨_, _, _, hrr⟩ := eC17_2 q hq
      exact (hrr _ _).cols (hgg17_2 q hq)
    | 12, hp =>
      cases hp
      refine ⟨rfl, fun q hq => ?_⟩
      obtain ⟨_, _, _, hrr⟩ := eC17_3 q hq
      exact (hrr _ _).cols (hgg17_3 q hq)
    | 13, hp =>
      cases hp
      refine ⟨rfl, fun q hq => ?_⟩
      obtain rfl : q = 0 := by have : q < 1 := hq; omega
      refine RowOk.sn hz18 (fun i hi => (hC18 i hi).2) hcc18 (fun i hi => ?_)
      rw [eC18_0 i hi]
      rw [eC18_1 i hi]
      rw [eC18_2 i hi]
      obtain ⟨v18_3, ev18_3, hv18_3, _⟩ := eC18_3 i hi; rw [ev18_3]
      rw [show C18_4 i = [] from fC18_4 i hi]
      exact ⟨rfl, rfl, rfl, hv18_3 _ _ 14 rfl (by simp [LL]), trivial⟩
    | 14, hp =>
      cases hp
      refine ⟨rfl, fun q hq => ?_⟩
      obtain ⟨_, _, _, hrr⟩ := eC18_3 q hq
      exact (hrr _ _).cols (hgg18_3 q hq)
    | b + 15, hp => simp [LL] at hp)
  refine (Tri.calls (lawFnExactNodeOk x1 x2 wx2 x3 wx3 x4 wx4 n5 hn5 (icol f5 0) (icol f5 1) (icol f5 2) (icol f5 3) (icol f5 4) (icol f5 5) (scol f5 6) (fun i hi => col_wf (ff5 i hi) (j := 0) rfl) (fun i hi => col_wf (ff5 i hi) (j := 1) rfl) (fun i hi => col_wf (ff5 i hi) (j := 2) rfl) (fun i hi => col_wf (ff5 i hi) (j := 3) rfl) (fun i hi => col_wf (ff5 i hi) (j := 4) rfl) (fun i hi => col_wf (ff5 i hi) (j := 5) rfl) (fun i hi => col_sz (ff5 i hi) (j := 6) rfl) x6 wx6 x7 wx7 n8 hn8 (icol f8 0) (fun i hi => col_wf (ff8 i hi) (j := 0) rfl) n9 hn9 (icol f9 0) (fun i hi => col_wf (ff9 i hi) (j := 0) rfl) x10 wx10 x11 wx11 x12 wx12 n13 hn13 (icol f13 0) (fun i hi => col_wf (ff13 i hi) (j := 0) rfl) n14 hn14 (icol f14 0) (icol f14 1) (fun i hi => col_wf (ff14 i hi) (j := 0) rfl) (fun i hi => col_wf (ff14 i hi) (j := 1) rfl) n15 hn15 x15_0 x15_1 len15_2 hlen15_2 (fun q => icol (gg15_2 q) 0) (fun q => icol (gg15_2 q) 1) n16 hn16 x16_0 x16_1 len16_2 hlen16_2 (fun q => icol (gg16_2 q) 0) (fun q => icol (gg16_2 q) 1) len16_3 hlen16_3 (fun q => icol (gg16_3 q) 0) n17 hn17 x17_0 x17_1 len17_2 hlen17_2 (fun q => icol (gg17_2 q) 0) len17_3 hlen17_3 (fun q => icol (gg17_3 q) 0) (fun q => icol (gg17_3 q) 1) n18 hn18 x18_0 x18_1 x18_2 len18_3 hlen18_3 (fun q => icol (gg18_3 q) 0)) rfl hrel (by exact ⟨⟨_, rfl, ⟨rfl, rfl, rfl, rfl, (hr5 _ (fun b _ => roM2 LL b 0) 0 rfl (by simp [LL])).1, rfl, rfl, (hr8 _ (fun b _ => roM2 LL b 0) 1 rfl (by simp [LL])).1, (hr9 _ (fun b _ => roM2 LL b 0) 2 rfl (by simp [LL])).1, rfl, rfl, rfl, (hr13 _ (fun b _ => roM2 LL b 0) 3 rfl (by simp [LL])).1, (hr14 _ (fun b _ => roM2 LL b 0) 4 rfl (by simp [LL])).1, hl15 _ _ 5 rfl (by simp [LL]), hl16 _ _ 7 rfl (by simp [LL]), hl17 _ _ 10 rfl (by simp [LL]), hl18 _ _ 13 rfl (by simp [LL]), trivial⟩⟩, trivial⟩)).mono fun e W' he => ?_
  obtain ⟨rfl, bel⟩ := he
  exact ⟨_, rfl, _, _, _, [], _, [], hW', trodAll_mk1 (shut_bool Tryz.underlying4 _), (trodAll_cons_mk (Below.trod laidOut (by kernel_rfl) (of_decide_eq_true (by kernel_rfl)) k0_ bel lt0) trodAll_mk0), rfl, bel.frame _, fun h => by cases h⟩
theorem over : Rows.fnExactNodeOkRow.holds Tryz.pinned (OpenSpec.ofChange Rows.fnExactNodeOkSpec) :=
  OpenClaim.holds_of_wide 3 Tryz.f3 rfl rfl rfl rfl rfl rfl rfl ⟨rfl, rfl, rfl, rfl, rfl⟩ rfl rfl rfl rfl rfl (by kernel_rfl) Tryz.func3 (by kernel_rfl)
    (of_decide_eq_true (by kernel_rfl)) (by unfold Func.isWrapper; first | (rw [if_pos (by decide +kernel)]; kernel_rfl) | (rw [if_neg (by decide +kernel)]; exact ⟨rfl, rfl⟩))
    (fun os started H enc _ => lifted os started H enc)
theorem proved : Rows.FnExactNodeOkSaid := over
#print axioms proved
end Go.Proofs.YtjdglheacigbnaaGreat.fnExactNodeOk
namespace Go.Proofs.YtjdglheacigbnaaGreat
/-- The row, under a short name, for the claim. -/
theorem fnExactNodeOk_holds : Rows.FnExactNodeOkSaid := fnExactNodeOk.proved
end Go.Proofs.YtjdglheacigbnaaGreat
