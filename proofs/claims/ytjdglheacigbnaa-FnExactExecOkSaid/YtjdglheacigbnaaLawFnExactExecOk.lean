/- The law FnExactExecOk holds of the given program, at every input: it returns true, and its arguments read afterwards as before. No condition. -/
import Derived.Test.YtjdglheacigbnaaRows
import Derived.Test.YtjdglheacigbnaaEWFnExactExecOk
import Derived.WalkKit
import Derived.ProofKit
import Derived.OpenShut
import Derived.ShutString
import Derived.ChangeOld
import Derived.Below
import Derived.SizedLaws
namespace Go.Proofs.Ytjdglheacigbnaa.fnExactExecOk
open Go.ChangeShapes Go.WideShapes Go.ChangeAt Go.RowKit Go.Proofs.YtjdglheacigbnaaE
open Go.ChangeMaps (open_string shut_string)
theorem flat3 : FlatT Try.prog 3 [.int .i64] := FlatT.int Try.underlying3 (by kernel_rfl)
theorem opens3 : OpenT Try.prog 3 [.flat [.int .i64]] := OpenT.flat flat3
theorem openss3 : OpenT2 Try.prog 3 [.tl (.flat [.int .i64])] := OpenT2.of opens3
theorem opens23 : OpenT Try.prog 23 [.sl [.int .i64]] := OpenT.slice Try.underlying23 (by kernel_rfl) flat3 (by decide)
theorem openss23 : OpenT2 Try.prog 23 [.tl (.sl [.int .i64])] := OpenT2.of opens23
theorem flat130 : FlatT Try.prog 130 [.int .i64, .int .i64] := FlatT.struct Try.underlying130 (by kernel_rfl) (FlatFs.cons (ks := [.int .i64]) (ks' := [.int .i64]) rfl flat3 (FlatFs.cons (ks := [.int .i64]) (ks' := []) rfl flat3 FlatFs.nil))
theorem opens45 : OpenT Try.prog 45 [.sl [.int .i64, .int .i64]] := OpenT.slice Try.underlying45 (by kernel_rfl) flat130 (by decide)
theorem openss45 : OpenT2 Try.prog 45 [.tl (.sl [.int .i64, .int .i64])] := OpenT2.of opens45
theorem opens149 : OpenT Try.prog 149 [.flat [.int .i64], .flat [.int .i64], .sl [.int .i64, .int .i64]] := OpenT.struct Try.underlying149 (by kernel_rfl) (OpenFs.cons (Ts := [.flat [.int .i64]]) (Us := [.flat [.int .i64], .sl [.int .i64, .int .i64]]) rfl opens3 (OpenFs.cons (Ts := [.flat [.int .i64]]) (Us := [.sl [.int .i64, .int .i64]]) rfl opens3 (OpenFs.cons (Ts := [.sl [.int .i64, .int .i64]]) (Us := []) rfl opens45 OpenFs.nil)))
theorem openss62 : OpenT2 Try.prog 62 [.sn [.flat [.int .i64], .flat [.int .i64], .sl [.int .i64, .int .i64]]] := OpenT2.slice Try.underlying62 (by kernel_rfl) opens149 (by decide)
theorem opens152 : OpenT Try.prog 152 [.flat [.int .i64], .flat [.int .i64], .sl [.int .i64, .int .i64], .sl [.int .i64]] := OpenT.struct Try.underlying152 (by kernel_rfl) (OpenFs.cons (Ts := [.flat [.int .i64]]) (Us := [.flat [.int .i64], .sl [.int .i64, .int .i64], .sl [.int .i64]]) rfl opens3 (OpenFs.cons (Ts := [.flat [.int .i64]]) (Us := [.sl [.int .i64, .int .i64], .sl [.int .i64]]) rfl opens3 (OpenFs.cons (Ts := [.sl [.int .i64, .int .i64]]) (Us := [.sl [.int .i64]]) rfl opens45 (OpenFs.cons (Ts := [.sl [.int .i64]]) (Us := []) rfl opens23 OpenFs.nil))))
theorem openss63 : OpenT2 Try.prog 63 [.sn [.flat [.int .i64], .flat [.int .i64], .sl [.int .i64, .int .i64], .sl [.int .i64]]] := OpenT2.slice Try.underlying63 (by kernel_rfl) opens152 (by decide)
theorem opens155 : OpenT Try.prog 155 [.flat [.int .i64], .flat [.int .i64], .sl [.int .i64], .sl [.int .i64, .int .i64]] := OpenT.struct Try.underlying155 (by kernel_rfl) (OpenFs.cons (Ts := [.flat [.int .i64]]) (Us := [.flat [.int .i64], .sl [.int .i64], .sl [.int .i64, .int .i64]]) rfl opens3 (OpenFs.cons (Ts := [.flat [.int .i64]]) (Us := [.sl [.int .i64], .sl [.int .i64, .int .i64]]) rfl opens3 (OpenFs.cons (Ts := [.sl [.int .i64]]) (Us := [.sl [.int .i64, .int .i64]]) rfl opens23 (OpenFs.cons (Ts := [.sl [.int .i64, .int .i64]]) (Us := []) rfl opens45 OpenFs.nil))))
theorem openss64 : OpenT2 Try.prog 64 [.sn [.flat [.int .i64], .flat [.int .i64], .sl [.int .i64], .sl [.int .i64, .int .i64]]] := OpenT2.slice Try.underlying64 (by kernel_rfl) opens155 (by decide)
theorem opens119 : OpenT Try.prog 119 [.flat [.int .i64], .flat [.int .i64], .flat [.int .i64], .sl [.int .i64]] := OpenT.struct Try.underlying119 (by kernel_rfl) (OpenFs.cons (Ts := [.flat [.int .i64]]) (Us := [.flat [.int .i64], .flat [.int .i64], .sl [.int .i64]]) rfl opens3 (OpenFs.cons (Ts := [.flat [.int .i64]]) (Us := [.flat [.int .i64], .sl [.int .i64]]) rfl opens3 (OpenFs.cons (Ts := [.flat [.int .i64]]) (Us := [.sl [.int .i64]]) rfl opens3 (OpenFs.cons (Ts := [.sl [.int .i64]]) (Us := []) rfl opens23 OpenFs.nil))))
theorem openss46 : OpenT2 Try.prog 46 [.sn [.flat [.int .i64], .flat [.int .i64], .flat [.int .i64], .sl [.int .i64]]] := OpenT2.slice Try.underlying46 (by kernel_rfl) opens119 (by decide)
theorem openss66 : OpenT2 Try.prog 66 [.tl (.flat [.int .i64]), .tl (.flat [.int .i64]), .tl (.sl [.int .i64]), .tl (.sl [.int .i64, .int .i64]), .sn [.flat [.int .i64], .flat [.int .i64], .sl [.int .i64, .int .i64]], .sn [.flat [.int .i64], .flat [.int .i64], .sl [.int .i64, .int .i64], .sl [.int .i64]], .sn [.flat [.int .i64], .flat [.int .i64], .sl [.int .i64], .sl [.int .i64, .int .i64]], .sn [.flat [.int .i64], .flat [.int .i64], .flat [.int .i64], .sl [.int .i64]]] := OpenT2.struct Try.underlying66 (by kernel_rfl) (OpenFs2.cons (Ts := [.tl (.flat [.int .i64])]) (Us := [.tl (.flat [.int .i64]), .tl (.sl [.int .i64]), .tl (.sl [.int .i64, .int .i64]), .sn [.flat [.int .i64], .flat [.int .i64], .sl [.int .i64, .int .i64]], .sn [.flat [.int .i64], .flat [.int .i64], .sl [.int .i64, .int .i64], .sl [.int .i64]], .sn [.flat [.int .i64], .flat [.int .i64], .sl [.int .i64], .sl [.int .i64, .int .i64]], .sn [.flat [.int .i64], .flat [.int .i64], .flat [.int .i64], .sl [.int .i64]]]) rfl openss3 (OpenFs2.cons (Ts := [.tl (.flat [.int .i64])]) (Us := [.tl (.sl [.int .i64]), .tl (.sl [.int .i64, .int .i64]), .sn [.flat [.int .i64], .flat [.int .i64], .sl [.int .i64, .int .i64]], .sn [.flat [.int .i64], .flat [.int .i64], .sl [.int .i64, .int .i64], .sl [.int .i64]], .sn [.flat [.int .i64], .flat [.int .i64], .sl [.int .i64], .sl [.int .i64, .int .i64]], .sn [.flat [.int .i64], .flat [.int .i64], .flat [.int .i64], .sl [.int .i64]]]) rfl openss3 (OpenFs2.cons (Ts := [.tl (.sl [.int .i64])]) (Us := [.tl (.sl [.int .i64, .int .i64]), .sn [.flat [.int .i64], .flat [.int .i64], .sl [.int .i64, .int .i64]], .sn [.flat [.int .i64], .flat [.int .i64], .sl [.int .i64, .int .i64], .sl [.int .i64]], .sn [.flat [.int .i64], .flat [.int .i64], .sl [.int .i64], .sl [.int .i64, .int .i64]], .sn [.flat [.int .i64], .flat [.int .i64], .flat [.int .i64], .sl [.int .i64]]]) rfl openss23 (OpenFs2.cons (Ts := [.tl (.sl [.int .i64, .int .i64])]) (Us := [.sn [.flat [.int .i64], .flat [.int .i64], .sl [.int .i64, .int .i64]], .sn [.flat [.int .i64], .flat [.int .i64], .sl [.int .i64, .int .i64], .sl [.int .i64]], .sn [.flat [.int .i64], .flat [.int .i64], .sl [.int .i64], .sl [.int .i64, .int .i64]], .sn [.flat [.int .i64], .flat [.int .i64], .flat [.int .i64], .sl [.int .i64]]]) rfl openss45 (OpenFs2.cons (Ts := [.sn [.flat [.int .i64], .flat [.int .i64], .sl [.int .i64, .int .i64]]]) (Us := [.sn [.flat [.int .i64], .flat [.int .i64], .sl [.int .i64, .int .i64], .sl [.int .i64]], .sn [.flat [.int .i64], .flat [.int .i64], .sl [.int .i64], .sl [.int .i64, .int .i64]], .sn [.flat [.int .i64], .flat [.int .i64], .flat [.int .i64], .sl [.int .i64]]]) rfl openss62 (OpenFs2.cons (Ts := [.sn [.flat [.int .i64], .flat [.int .i64], .sl [.int .i64, .int .i64], .sl [.int .i64]]]) (Us := [.sn [.flat [.int .i64], .flat [.int .i64], .sl [.int .i64], .sl [.int .i64, .int .i64]], .sn [.flat [.int .i64], .flat [.int .i64], .flat [.int .i64], .sl [.int .i64]]]) rfl openss63 (OpenFs2.cons (Ts := [.sn [.flat [.int .i64], .flat [.int .i64], .sl [.int .i64], .sl [.int .i64, .int .i64]]]) (Us := [.sn [.flat [.int .i64], .flat [.int .i64], .flat [.int .i64], .sl [.int .i64]]]) rfl openss64 (OpenFs2.cons (Ts := [.sn [.flat [.int .i64], .flat [.int .i64], .flat [.int .i64], .sl [.int .i64]]]) (Us := []) rfl openss46 OpenFs2.nil))))))))
theorem own : ownKnob Try.prog.godebug = none := by kernel_rfl
theorem laidOut : laidOutB Try.prog = true := by kernel_rfl
set_option maxRecDepth 100000 in
theorem lifted (os : Os) (started : os.Started) (H : Type) (enc : TypeId × Value → H) :
    ReturnsInHanded {} Try.checked os 5 .any (Rows.fnExactExecOkSpec.pre6 enc Try.prog Try.f5 Rows.fnExactExecOkRow.domain false) (Rows.fnExactExecOkSpec.post enc Try.prog Try.f5 false true false false) := by
  refine returnsInHanded_of_change_sized (C := Try.checked) own started (by kernel_rfl) Try.func5
    (ChangeSpec.witness6 (enc := enc) (C := Try.checked) false ⟨#[], #[.agg #[.int .i64 0, .int .i64 0, .slice none 0 0, .slice none 0 0, .slice none 0 0, .slice none 0 0, .slice none 0 0, .slice none 0 0]], []⟩ 8 (by kernel_rfl) (by kernel_rfl) (by kernel_rfl) (by kernel_rfl)) ?_
  intro W base args ds gs before hval0 hW hcnd hsz0 _
  have hval : ∀ (j : Nat) t v, Try.f5.params[j]? = some t → args[j]? = some v → Value.okWide Try.prog W .any base t v := hval0
  have hW' := hW
  obtain ⟨p, q, hA0, hV, rfl, hfz, hnd⟩ := hW
  have hA : DataW.TrodAll enc Try.prog W 0 (fun _ => true) true Try.f5.params.toList args.toList ds p := hA0
  rw [Try.params5] at hA hval
  obtain ⟨v0, vs0, d0, ds0, p0, q0, hargs, rfl, rfl, h0, r0⟩ := trodAll_cons hA
  obtain ⟨rfl, rfl, rfl⟩ := trodAll_nil r0
  obtain rfl : args = #[v0] := by cases args; simp_all
  obtain ⟨rfl, rfl⟩ := trodVars_none hV
  have k0_ := h0
  have lt0 : ∀ x ∈ p0, x.block < W.heap.size := by obtain ⟨m, hm⟩ := k0_; exact DataW.trod_lt m _ _ _ hm
  obtain ⟨cs0, rfl, hcs0⟩ := okWide_struct Try.underlying66 (hval 0 66 v0 rfl rfl)
  obtain ⟨fuel0, hf0⟩ := h0
  have fit0 : fitL2 W [.tl (.flat [.int .i64]), .tl (.flat [.int .i64]), .tl (.sl [.int .i64]), .tl (.sl [.int .i64, .int .i64]), .sn [.flat [.int .i64], .flat [.int .i64], .sl [.int .i64, .int .i64]], .sn [.flat [.int .i64], .flat [.int .i64], .sl [.int .i64, .int .i64], .sl [.int .i64]], .sn [.flat [.int .i64], .flat [.int .i64], .sl [.int .i64], .sl [.int .i64, .int .i64]], .sn [.flat [.int .i64], .flat [.int .i64], .flat [.int .i64], .sl [.int .i64]]] cs0.toList := openss66.op hf0
  obtain ⟨l1, m1, e1, g1, t1⟩ := fit0
  obtain ⟨l2, m2, e2, g2, t2⟩ := t1
  obtain ⟨l3, m3, e3, g3, t3⟩ := t2
  obtain ⟨l4, m4, e4, g4, t4⟩ := t3
  obtain ⟨l5, m5, e5, g5, t5⟩ := t4
  obtain ⟨l6, m6, e6, g6, t6⟩ := t5
  obtain ⟨l7, m7, e7, g7, t7⟩ := t6
  obtain ⟨l8, m8, e8, g8, t8⟩ := t7
  have z0 : m8 = [] := t8
  obtain ⟨x1, rfl, wx1⟩ := Flat.int g1
  obtain ⟨x2, rfl, wx2⟩ := Flat.int g2
  obtain ⟨y3, rfl, n3, f3, s3, hn3, ff3, hr3⟩ := g3
  obtain ⟨y4, rfl, n4, f4, s4, hn4, ff4, hr4⟩ := g4
  obtain ⟨y5, rfl, n5, C5_0, s5, hn5, hz5, hC5, hl5, hcc5⟩ := g5
  have fC5_0 := fun i hi => (hC5 i hi).1
  obtain ⟨x5_0, C5_1, wx5_0, fC5_1, eC5_0⟩ := fitL.ints fC5_0
  obtain ⟨x5_1, C5_2, wx5_1, fC5_2, eC5_1⟩ := fitL.ints fC5_1
  obtain ⟨len5_2, gg5_2, sp5_2, C5_3, hlen5_2, hgg5_2, fC5_3, eC5_2⟩ := fitL.slc fC5_2
  obtain ⟨y6, rfl, n6, C6_0, s6, hn6, hz6, hC6, hl6, hcc6⟩ := g6
  have fC6_0 := fun i hi => (hC6 i hi).1
  obtain ⟨x6_0, C6_1, wx6_0, fC6_1, eC6_0⟩ := fitL.ints fC6_0
  obtain ⟨x6_1, C6_2, wx6_1, fC6_2, eC6_1⟩ := fitL.ints fC6_1
  obtain ⟨len6_2, gg6_2, sp6_2, C6_3, hlen6_2, hgg6_2, fC6_3, eC6_2⟩ := fitL.slc fC6_2
  obtain ⟨len6_3, gg6_3, sp6_3, C6_4, hlen6_3, hgg6_3, fC6_4, eC6_3⟩ := fitL.slc fC6_3
  obtain ⟨y7, rfl, n7, C7_0, s7, hn7, hz7, hC7, hl7, hcc7⟩ := g7
  have fC7_0 := fun i hi => (hC7 i hi).1
  obtain ⟨x7_0, C7_1, wx7_0, fC7_1, eC7_0⟩ := fitL.ints fC7_0
  obtain ⟨x7_1, C7_2, wx7_1, fC7_2, eC7_1⟩ := fitL.ints fC7_1
  obtain ⟨len7_2, gg7_2, sp7_2, C7_3, hlen7_2, hgg7_2, fC7_3, eC7_2⟩ := fitL.slc fC7_2
  obtain ⟨len7_3, gg7_3, sp7_3, C7_4, hlen7_3, hgg7_3, fC7_4, eC7_3⟩ := fitL.slc fC7_3
  obtain ⟨y8, rfl, n8, C8_0, s8, hn8, hz8, hC8, hl8, hcc8⟩ := g8
  have fC8_0 := fun i hi => (hC8 i hi).1
  obtain ⟨x8_0, C8_1, wx8_0, fC8_1, eC8_0⟩ := fitL.ints fC8_0
  obtain ⟨x8_1, C8_2, wx8_1, fC8_2, eC8_1⟩ := fitL.ints fC8_1
  obtain ⟨x8_2, C8_3, wx8_2, fC8_3, eC8_2⟩ := fitL.ints fC8_2
  obtain ⟨len8_3, gg8_3, sp8_3, C8_4, hlen8_3, hgg8_3, fC8_4, eC8_3⟩ := fitL.slc fC8_3
  obtain rfl : cs0 = #[.int .i64 x1, .int .i64 x2, y3, y4, y5, y6, y7, y8] := by rw [← Array.toArray_toList (xs := cs0), e1, e2, e3, e4, e5, e6, e7, e8, z0]; rfl
  let LL : List (Ent × (Nat → Spot)) := [(.one false (.arr 1 n3 (colsFrom f3 0 [.int .i64])), fun _ => s3), (.one false (.arr 2 n4 (colsFrom f4 0 [.int .i64, .int .i64])), fun _ => s4), (.one false (.arr 3 n5 fun i => [.i64 (x5_0 i), .i64 (x5_1 i), .sl 3 i 0 (len5_2 i) 0]), fun _ => s5), (.fam false n5 fun q => .arr 2 (len5_2 q) (colsFrom (gg5_2 q) 0 [.int .i64, .int .i64]), sp5_2), (.one false (.arr 4 n6 fun i => [.i64 (x6_0 i), .i64 (x6_1 i), .sl 5 i 0 (len6_2 i) 0, .sl 6 i 0 (len6_3 i) 0]), fun _ => s6), (.fam false n6 fun q => .arr 2 (len6_2 q) (colsFrom (gg6_2 q) 0 [.int .i64, .int .i64]), sp6_2), (.fam false n6 fun q => .arr 1 (len6_3 q) (colsFrom (gg6_3 q) 0 [.int .i64]), sp6_3), (.one false (.arr 4 n7 fun i => [.i64 (x7_0 i), .i64 (x7_1 i), .sl 8 i 0 (len7_2 i) 0, .sl 9 i 0 (len7_3 i) 0]), fun _ => s7), (.fam false n7 fun q => .arr 1 (len7_2 q) (colsFrom (gg7_2 q) 0 [.int .i64]), sp7_2), (.fam false n7 fun q => .arr 2 (len7_3 q) (colsFrom (gg7_3 q) 0 [.int .i64, .int .i64]), sp7_3), (.one false (.arr 4 n8 fun i => [.i64 (x8_0 i), .i64 (x8_1 i), .i64 (x8_2 i), .sl 11 i 0 (len8_3 i) 0]), fun _ => s8), (.fam false n8 fun q => .arr 1 (len8_3 q) (colsFrom (gg8_3 q) 0 [.int .i64]), sp8_3)]
  have hrel : HRel (roM2 LL) (roH2 LL) W := HRel.ro2 (by
    intro b p hp
    match b, hp with
    | 0, hp =>
      cases hp
      refine ⟨rfl, fun q hq => ?_⟩
      obtain rfl : q = 0 := by have : q < 1 := hq; omega
      exact (hr3 _ (roM2 LL) 0 rfl (by simp [LL])).2.cols ff3
    | 1, hp =>
      cases hp
      refine ⟨rfl, fun q hq => ?_⟩
      obtain rfl : q = 0 := by have : q < 1 := hq; omega
      exact (hr4 _ (roM2 LL) 1 rfl (by simp [LL])).2.cols ff4
    | 2, hp =>
      cases hp
      refine ⟨rfl, fun q hq => ?_⟩
      obtain rfl : q = 0 := by have : q < 1 := hq; omega
      refine RowOk.sn hz5 (fun i hi => (hC5 i hi).2) hcc5 (fun i hi => ?_)
      rw [eC5_0 i hi]
      rw [eC5_1 i hi]
      obtain ⟨v5_2, ev5_2, hv5_2, _⟩ := eC5_2 i hi; rw [ev5_2]
      rw [show C5_3 i = [] from fC5_3 i hi]
      exact ⟨rfl, rfl, hv5_2 _ _ 3 rfl (by simp [LL]), trivial⟩
    | 3, hp =>
      cases hp
      refine ⟨rfl, fun q hq => ?_⟩
      obtain ⟨_, _, _, hrr⟩ := eC5_2 q hq
      exact (hrr _ _).cols (hgg5_2 q hq)
    | 4, hp =>
      cases hp
      refine ⟨rfl, fun q hq => ?_⟩
      obtain rfl : q = 0 := by have : q < 1 := hq; omega
      refine RowOk.sn hz6 (fun i hi => (hC6 i hi).2) hcc6 (fun i hi => ?_)
      rw [eC6_0 i hi]
      rw [eC6_1 i hi]
      obtain ⟨v6_2, ev6_2, hv6_2, _⟩ := eC6_2 i hi; rw [ev6_2]
      obtain ⟨v6_3, ev6_3, hv6_3, _⟩ := eC6_3 i hi; rw [ev6_3]
      rw [show C6_4 i = [] from fC6_4 i hi]
      exact ⟨rfl, rfl, hv6_2 _ _ 5 rfl (by simp [LL]), hv6_3 _ _ 6 rfl (by simp [LL]), trivial⟩
    | 5, hp =>
      cases hp
      refine ⟨rfl, fun q hq => ?_⟩
      obtain ⟨_, _, _, hrr⟩ := eC6_2 q hq
      exact (hrr _ _).cols (hgg6_2 q hq)
    | 6, hp =>
      cases hp
      refine ⟨rfl, fun q hq => ?_⟩
      obtain ⟨_, _, _, hrr⟩ := eC6_3 q hq
      exact (hrr _ _).cols (hgg6_3 q hq)
    | 7, hp =>
      cases hp
      refine ⟨rfl, fun q hq => ?_⟩
      obtain rfl : q = 0 := by have : q < 1 := hq; omega
      refine RowOk.sn hz7 (fun i hi => (hC7 i hi).2) hcc7 (fun i hi => ?_)
      rw [eC7_0 i hi]
      rw [eC7_1 i hi]
      obtain ⟨v7_2, ev7_2, hv7_2, _⟩ := eC7_2 i hi; rw [ev7_2]
      obtain ⟨v7_3, ev7_3, hv7_3, _⟩ := eC7_3 i hi; rw [ev7_3]
      rw [show C7_4 i = [] from fC7_4 i hi]
      exact ⟨rfl, rfl, hv7_2 _ _ 8 rfl (by simp [LL]), hv7_3 _ _ 9 rfl (by simp [LL]), trivial⟩
    | 8, hp =>
      cases hp
      refine ⟨rfl, fun q hq => ?_⟩
      obtain ⟨_, _, _, hrr⟩ := eC7_2 q hq
      exact (hrr _ _).cols (hgg7_2 q hq)
    | 9, hp =>
      cases hp
      refine ⟨rfl, fun q hq => ?_⟩
      obtain ⟨_, _, _, hrr⟩ := eC7_3 q hq
      exact (hrr _ _).cols (hgg7_3 q hq)
    | 10, hp =>
      cases hp
      refine ⟨rfl, fun q hq => ?_⟩
      obtain rfl : q = 0 := by have : q < 1 := hq; omega
      refine RowOk.sn hz8 (fun i hi => (hC8 i hi).2) hcc8 (fun i hi => ?_)
      rw [eC8_0 i hi]
      rw [eC8_1 i hi]
      rw [eC8_2 i hi]
      obtain ⟨v8_3, ev8_3, hv8_3, _⟩ := eC8_3 i hi; rw [ev8_3]
      rw [show C8_4 i = [] from fC8_4 i hi]
      exact ⟨rfl, rfl, rfl, hv8_3 _ _ 11 rfl (by simp [LL]), trivial⟩
    | 11, hp =>
      cases hp
      refine ⟨rfl, fun q hq => ?_⟩
      obtain ⟨_, _, _, hrr⟩ := eC8_3 q hq
      exact (hrr _ _).cols (hgg8_3 q hq)
    | b + 12, hp => simp [LL] at hp)
  refine (Tri.calls (lawFnExactExecOk x1 wx1 x2 wx2 n3 hn3 (icol f3 0) (fun i hi => col_wf (ff3 i hi) (j := 0) rfl) n4 hn4 (icol f4 0) (icol f4 1) (fun i hi => col_wf (ff4 i hi) (j := 0) rfl) (fun i hi => col_wf (ff4 i hi) (j := 1) rfl) n5 hn5 x5_0 x5_1 len5_2 hlen5_2 (fun q => icol (gg5_2 q) 0) (fun q => icol (gg5_2 q) 1) n6 hn6 x6_0 x6_1 len6_2 hlen6_2 (fun q => icol (gg6_2 q) 0) (fun q => icol (gg6_2 q) 1) len6_3 hlen6_3 (fun q => icol (gg6_3 q) 0) n7 hn7 x7_0 x7_1 len7_2 hlen7_2 (fun q => icol (gg7_2 q) 0) len7_3 hlen7_3 (fun q => icol (gg7_3 q) 0) (fun q => icol (gg7_3 q) 1) n8 hn8 x8_0 x8_1 x8_2 len8_3 hlen8_3 (fun q => icol (gg8_3 q) 0)) rfl hrel (by exact ⟨⟨_, rfl, ⟨rfl, rfl, (hr3 _ (fun b _ => roM2 LL b 0) 0 rfl (by simp [LL])).1, (hr4 _ (fun b _ => roM2 LL b 0) 1 rfl (by simp [LL])).1, hl5 _ _ 2 rfl (by simp [LL]), hl6 _ _ 4 rfl (by simp [LL]), hl7 _ _ 7 rfl (by simp [LL]), hl8 _ _ 10 rfl (by simp [LL]), trivial⟩⟩, trivial⟩)).mono fun e W' he => ?_
  obtain ⟨rfl, bel⟩ := he
  exact ⟨_, rfl, _, _, _, [], _, [], hW', trodAll_mk1 (shut_bool Try.underlying4 _), (trodAll_cons_mk (Below.trod laidOut (by kernel_rfl) (of_decide_eq_true (by kernel_rfl)) k0_ bel lt0) trodAll_mk0), rfl, bel.frame _, fun h => by cases h⟩
theorem over : Rows.fnExactExecOkRow.holds Try.pinned (OpenSpec.ofChange Rows.fnExactExecOkSpec) :=
  OpenClaim.holds_of_wide 5 Try.f5 rfl rfl rfl rfl rfl rfl rfl ⟨rfl, rfl, rfl, rfl, rfl⟩ rfl rfl rfl rfl rfl (by kernel_rfl) Try.func5 (by kernel_rfl)
    (of_decide_eq_true (by kernel_rfl)) (by unfold Func.isWrapper; first | (rw [if_pos (by decide +kernel)]; kernel_rfl) | (rw [if_neg (by decide +kernel)]; exact ⟨rfl, rfl⟩))
    (fun os started H enc _ => lifted os started H enc)
theorem proved : Rows.FnExactExecOkSaid := over
#print axioms proved
end Go.Proofs.Ytjdglheacigbnaa.fnExactExecOk
namespace Go.Proofs.Ytjdglheacigbnaa
/-- The row, under a short name, for the claim. -/
theorem fnExactExecOk_holds : Rows.FnExactExecOkSaid := fnExactExecOk.proved
end Go.Proofs.Ytjdglheacigbnaa
