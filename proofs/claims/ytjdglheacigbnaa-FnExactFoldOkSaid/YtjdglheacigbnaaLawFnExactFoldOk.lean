/- The law FnExactFoldOk holds of the given program, at every input: it returns true, and its arguments read afterwards as before. No condition. -/
import Derived.Test.YtjdglheacigbnaaRows
import Derived.Test.YtjdglheacigbnaaEWFnExactFoldOk
import Derived.WalkKit
import Derived.ProofKit
import Derived.OpenShut
import Derived.ShutString
import Derived.ChangeOld
import Derived.Below
import Derived.SizedLaws
namespace Go.Proofs.Ytjdglheacigbnaa.fnExactFoldOk
open Go.ChangeShapes Go.WideShapes Go.ChangeAt Go.RowKit Go.Proofs.YtjdglheacigbnaaE
open Go.ChangeMaps (open_string shut_string)
theorem flat3 : FlatT Try.prog 3 [.int .i64] := FlatT.int Try.underlying3 (by kernel_rfl)
theorem opens3 : OpenT Try.prog 3 [.flat [.int .i64]] := OpenT.flat flat3
theorem flat209 : FlatT Try.prog 209 [.int .i64, .int .i64, .int .i64] := FlatT.struct Try.underlying209 (by kernel_rfl) (FlatFs.cons (ks := [.int .i64]) (ks' := [.int .i64, .int .i64]) rfl flat3 (FlatFs.cons (ks := [.int .i64]) (ks' := [.int .i64]) rfl flat3 (FlatFs.cons (ks := [.int .i64]) (ks' := []) rfl flat3 FlatFs.nil)))
theorem opens39 : OpenT Try.prog 39 [.sl [.int .i64, .int .i64, .int .i64]] := OpenT.slice Try.underlying39 (by kernel_rfl) flat209 (by decide)
theorem opens41 : OpenT Try.prog 41 [.flat [.int .i64], .flat [.int .i64], .sl [.int .i64, .int .i64, .int .i64]] := OpenT.struct Try.underlying41 (by kernel_rfl) (OpenFs.cons (Ts := [.flat [.int .i64]]) (Us := [.flat [.int .i64], .sl [.int .i64, .int .i64, .int .i64]]) rfl opens3 (OpenFs.cons (Ts := [.flat [.int .i64]]) (Us := [.sl [.int .i64, .int .i64, .int .i64]]) rfl opens3 (OpenFs.cons (Ts := [.sl [.int .i64, .int .i64, .int .i64]]) (Us := []) rfl opens39 OpenFs.nil)))
theorem flat194 : FlatT Try.prog 194 [.int .i64, .int .i64, .int .i64] := FlatT.struct Try.underlying194 (by kernel_rfl) (FlatFs.cons (ks := [.int .i64]) (ks' := [.int .i64, .int .i64]) rfl flat3 (FlatFs.cons (ks := [.int .i64]) (ks' := [.int .i64]) rfl flat3 (FlatFs.cons (ks := [.int .i64]) (ks' := []) rfl flat3 FlatFs.nil)))
theorem opens42 : OpenT Try.prog 42 [.sl [.int .i64, .int .i64, .int .i64]] := OpenT.slice Try.underlying42 (by kernel_rfl) flat194 (by decide)
theorem opens44 : OpenT Try.prog 44 [.flat [.int .i64], .flat [.int .i64], .flat [.int .i64], .sl [.int .i64, .int .i64, .int .i64], .sl [.int .i64, .int .i64, .int .i64], .flat [.int .i64], .flat [.int .i64]] := OpenT.struct Try.underlying44 (by kernel_rfl) (OpenFs.cons (Ts := [.flat [.int .i64]]) (Us := [.flat [.int .i64], .flat [.int .i64], .sl [.int .i64, .int .i64, .int .i64], .sl [.int .i64, .int .i64, .int .i64], .flat [.int .i64], .flat [.int .i64]]) rfl opens3 (OpenFs.cons (Ts := [.flat [.int .i64], .flat [.int .i64], .sl [.int .i64, .int .i64, .int .i64]]) (Us := [.sl [.int .i64, .int .i64, .int .i64], .flat [.int .i64], .flat [.int .i64]]) rfl opens41 (OpenFs.cons (Ts := [.sl [.int .i64, .int .i64, .int .i64]]) (Us := [.flat [.int .i64], .flat [.int .i64]]) rfl opens42 (OpenFs.cons (Ts := [.flat [.int .i64]]) (Us := [.flat [.int .i64]]) rfl opens3 (OpenFs.cons (Ts := [.flat [.int .i64]]) (Us := []) rfl opens3 OpenFs.nil)))))
theorem openss44 : OpenT2 Try.prog 44 [.tl (.flat [.int .i64]), .tl (.flat [.int .i64]), .tl (.flat [.int .i64]), .tl (.sl [.int .i64, .int .i64, .int .i64]), .tl (.sl [.int .i64, .int .i64, .int .i64]), .tl (.flat [.int .i64]), .tl (.flat [.int .i64])] := OpenT2.of opens44
theorem flat130 : FlatT Try.prog 130 [.int .i64, .int .i64] := FlatT.struct Try.underlying130 (by kernel_rfl) (FlatFs.cons (ks := [.int .i64]) (ks' := [.int .i64]) rfl flat3 (FlatFs.cons (ks := [.int .i64]) (ks' := []) rfl flat3 FlatFs.nil))
theorem opens45 : OpenT Try.prog 45 [.sl [.int .i64, .int .i64]] := OpenT.slice Try.underlying45 (by kernel_rfl) flat130 (by decide)
theorem openss45 : OpenT2 Try.prog 45 [.tl (.sl [.int .i64, .int .i64])] := OpenT2.of opens45
theorem opens23 : OpenT Try.prog 23 [.sl [.int .i64]] := OpenT.slice Try.underlying23 (by kernel_rfl) flat3 (by decide)
theorem opens119 : OpenT Try.prog 119 [.flat [.int .i64], .flat [.int .i64], .flat [.int .i64], .sl [.int .i64]] := OpenT.struct Try.underlying119 (by kernel_rfl) (OpenFs.cons (Ts := [.flat [.int .i64]]) (Us := [.flat [.int .i64], .flat [.int .i64], .sl [.int .i64]]) rfl opens3 (OpenFs.cons (Ts := [.flat [.int .i64]]) (Us := [.flat [.int .i64], .sl [.int .i64]]) rfl opens3 (OpenFs.cons (Ts := [.flat [.int .i64]]) (Us := [.sl [.int .i64]]) rfl opens3 (OpenFs.cons (Ts := [.sl [.int .i64]]) (Us := []) rfl opens23 OpenFs.nil))))
theorem openss46 : OpenT2 Try.prog 46 [.sn [.flat [.int .i64], .flat [.int .i64], .flat [.int .i64], .sl [.int .i64]]] := OpenT2.slice Try.underlying46 (by kernel_rfl) opens119 (by decide)
theorem openss48 : OpenT2 Try.prog 48 [.tl (.flat [.int .i64]), .tl (.flat [.int .i64]), .tl (.flat [.int .i64]), .tl (.sl [.int .i64, .int .i64, .int .i64]), .tl (.sl [.int .i64, .int .i64, .int .i64]), .tl (.flat [.int .i64]), .tl (.flat [.int .i64]), .tl (.sl [.int .i64, .int .i64]), .sn [.flat [.int .i64], .flat [.int .i64], .flat [.int .i64], .sl [.int .i64]]] := OpenT2.struct Try.underlying48 (by kernel_rfl) (OpenFs2.cons (Ts := [.tl (.flat [.int .i64]), .tl (.flat [.int .i64]), .tl (.flat [.int .i64]), .tl (.sl [.int .i64, .int .i64, .int .i64]), .tl (.sl [.int .i64, .int .i64, .int .i64]), .tl (.flat [.int .i64]), .tl (.flat [.int .i64])]) (Us := [.tl (.sl [.int .i64, .int .i64]), .sn [.flat [.int .i64], .flat [.int .i64], .flat [.int .i64], .sl [.int .i64]]]) rfl openss44 (OpenFs2.cons (Ts := [.tl (.sl [.int .i64, .int .i64])]) (Us := [.sn [.flat [.int .i64], .flat [.int .i64], .flat [.int .i64], .sl [.int .i64]]]) rfl openss45 (OpenFs2.cons (Ts := [.sn [.flat [.int .i64], .flat [.int .i64], .flat [.int .i64], .sl [.int .i64]]]) (Us := []) rfl openss46 OpenFs2.nil)))
theorem own : ownKnob Try.prog.godebug = none := by kernel_rfl
theorem laidOut : laidOutB Try.prog = true := by kernel_rfl
set_option maxRecDepth 100000 in
theorem lifted (os : Os) (started : os.Started) (H : Type) (enc : TypeId × Value → H) :
    ReturnsInHanded {} Try.checked os 4 .any (Rows.fnExactFoldOkSpec.pre6 enc Try.prog Try.f4 Rows.fnExactFoldOkRow.domain false) (Rows.fnExactFoldOkSpec.post enc Try.prog Try.f4 false true false false) := by
  refine returnsInHanded_of_change_sized (C := Try.checked) own started (by kernel_rfl) Try.func4
    (ChangeSpec.witness6 (enc := enc) (C := Try.checked) false ⟨#[], #[.agg #[.int .i64 0, .int .i64 0, .int .i64 0, .slice none 0 0, .slice none 0 0, .int .i64 0, .int .i64 0, .slice none 0 0, .slice none 0 0]], []⟩ 8 (by kernel_rfl) (by kernel_rfl) (by kernel_rfl) (by kernel_rfl)) ?_
  intro W base args ds gs before hval0 hW hcnd hsz0 _
  have hval : ∀ (j : Nat) t v, Try.f4.params[j]? = some t → args[j]? = some v → Value.okWide Try.prog W .any base t v := hval0
  have hW' := hW
  obtain ⟨p, q, hA0, hV, rfl, hfz, hnd⟩ := hW
  have hA : DataW.TrodAll enc Try.prog W 0 (fun _ => true) true Try.f4.params.toList args.toList ds p := hA0
  rw [Try.params4] at hA hval
  obtain ⟨v0, vs0, d0, ds0, p0, q0, hargs, rfl, rfl, h0, r0⟩ := trodAll_cons hA
  obtain ⟨rfl, rfl, rfl⟩ := trodAll_nil r0
  obtain rfl : args = #[v0] := by cases args; simp_all
  obtain ⟨rfl, rfl⟩ := trodVars_none hV
  have k0_ := h0
  have lt0 : ∀ x ∈ p0, x.block < W.heap.size := by obtain ⟨m, hm⟩ := k0_; exact DataW.trod_lt m _ _ _ hm
  obtain ⟨cs0, rfl, hcs0⟩ := okWide_struct Try.underlying48 (hval 0 48 v0 rfl rfl)
  obtain ⟨fuel0, hf0⟩ := h0
  have fit0 : fitL2 W [.tl (.flat [.int .i64]), .tl (.flat [.int .i64]), .tl (.flat [.int .i64]), .tl (.sl [.int .i64, .int .i64, .int .i64]), .tl (.sl [.int .i64, .int .i64, .int .i64]), .tl (.flat [.int .i64]), .tl (.flat [.int .i64]), .tl (.sl [.int .i64, .int .i64]), .sn [.flat [.int .i64], .flat [.int .i64], .flat [.int .i64], .sl [.int .i64]]] cs0.toList := openss48.op hf0
  obtain ⟨l1, m1, e1, g1, t1⟩ := fit0
  obtain ⟨l2, m2, e2, g2, t2⟩ := t1
  obtain ⟨l3, m3, e3, g3, t3⟩ := t2
  obtain ⟨l4, m4, e4, g4, t4⟩ := t3
  obtain ⟨l5, m5, e5, g5, t5⟩ := t4
  obtain ⟨l6, m6, e6, g6, t6⟩ := t5
  obtain ⟨l7, m7, e7, g7, t7⟩ := t6
  obtain ⟨l8, m8, e8, g8, t8⟩ := t7
  obtain ⟨l9, m9, e9, g9, t9⟩ := t8
  have z0 : m9 = [] := t9
  obtain ⟨x1, rfl, wx1⟩ := Flat.int g1
  obtain ⟨x2, rfl, wx2⟩ := Flat.int g2
  obtain ⟨x3, rfl, wx3⟩ := Flat.int g3
  obtain ⟨y4, rfl, n4, f4, s4, hn4, ff4, hr4⟩ := g4
  obtain ⟨y5, rfl, n5, f5, s5, hn5, ff5, hr5⟩ := g5
  obtain ⟨x6, rfl, wx6⟩ := Flat.int g6
  obtain ⟨x7, rfl, wx7⟩ := Flat.int g7
  obtain ⟨y8, rfl, n8, f8, s8, hn8, ff8, hr8⟩ := g8
  obtain ⟨y9, rfl, n9, C9_0, s9, hn9, hz9, hC9, hl9, hcc9⟩ := g9
  have fC9_0 := fun i hi => (hC9 i hi).1
  obtain ⟨x9_0, C9_1, wx9_0, fC9_1, eC9_0⟩ := fitL.ints fC9_0
  obtain ⟨x9_1, C9_2, wx9_1, fC9_2, eC9_1⟩ := fitL.ints fC9_1
  obtain ⟨x9_2, C9_3, wx9_2, fC9_3, eC9_2⟩ := fitL.ints fC9_2
  obtain ⟨len9_3, gg9_3, sp9_3, C9_4, hlen9_3, hgg9_3, fC9_4, eC9_3⟩ := fitL.slc fC9_3
  obtain rfl : cs0 = #[.int .i64 x1, .int .i64 x2, .int .i64 x3, y4, y5, .int .i64 x6, .int .i64 x7, y8, y9] := by rw [← Array.toArray_toList (xs := cs0), e1, e2, e3, e4, e5, e6, e7, e8, e9, z0]; rfl
  let LL : List (Ent × (Nat → Spot)) := [(.one false (.arr 3 n4 (colsFrom f4 0 [.int .i64, .int .i64, .int .i64])), fun _ => s4), (.one false (.arr 3 n5 (colsFrom f5 0 [.int .i64, .int .i64, .int .i64])), fun _ => s5), (.one false (.arr 2 n8 (colsFrom f8 0 [.int .i64, .int .i64])), fun _ => s8), (.one false (.arr 4 n9 fun i => [.i64 (x9_0 i), .i64 (x9_1 i), .i64 (x9_2 i), .sl 4 i 0 (len9_3 i) 0]), fun _ => s9), (.fam false n9 fun q => .arr 1 (len9_3 q) (colsFrom (gg9_3 q) 0 [.int .i64]), sp9_3)]
  have hrel : HRel (roM2 LL) (roH2 LL) W := HRel.ro2 (by
    intro b p hp
    match b, hp with
    | 0, hp =>
      cases hp
      refine ⟨rfl, fun q hq => ?_⟩
      obtain rfl : q = 0 := by have : q < 1 := hq; omega
      exact (hr4 _ (roM2 LL) 0 rfl (by simp [LL])).2.cols ff4
    | 1, hp =>
      cases hp
      refine ⟨rfl, fun q hq => ?_⟩
      obtain rfl : q = 0 := by have : q < 1 := hq; omega
      exact (hr5 _ (roM2 LL) 1 rfl (by simp [LL])).2.cols ff5
    | 2, hp =>
      cases hp
      refine ⟨rfl, fun q hq => ?_⟩
      obtain rfl : q = 0 := by have : q < 1 := hq; omega
      exact (hr8 _ (roM2 LL) 2 rfl (by simp [LL])).2.cols ff8
    | 3, hp =>
      cases hp
      refine ⟨rfl, fun q hq => ?_⟩
      obtain rfl : q = 0 := by have : q < 1 := hq; omega
      refine RowOk.sn hz9 (fun i hi => (hC9 i hi).2) hcc9 (fun i hi => ?_)
      rw [eC9_0 i hi]
      rw [eC9_1 i hi]
      rw [eC9_2 i hi]
      obtain ⟨v9_3, ev9_3, hv9_3, _⟩ := eC9_3 i hi; rw [ev9_3]
      rw [show C9_4 i = [] from fC9_4 i hi]
      exact ⟨rfl, rfl, rfl, hv9_3 _ _ 4 rfl (by simp [LL]), trivial⟩
    | 4, hp =>
      cases hp
      refine ⟨rfl, fun q hq => ?_⟩
      obtain ⟨_, _, _, hrr⟩ := eC9_3 q hq
      exact (hrr _ _).cols (hgg9_3 q hq)
    | b + 5, hp => simp [LL] at hp)
  refine (Tri.calls (lawFnExactFoldOk x1 wx1 x2 wx2 x3 wx3 n4 hn4 (icol f4 0) (icol f4 1) (icol f4 2) (fun i hi => col_wf (ff4 i hi) (j := 0) rfl) (fun i hi => col_wf (ff4 i hi) (j := 1) rfl) (fun i hi => col_wf (ff4 i hi) (j := 2) rfl) n5 hn5 (icol f5 0) (icol f5 1) (icol f5 2) (fun i hi => col_wf (ff5 i hi) (j := 0) rfl) (fun i hi => col_wf (ff5 i hi) (j := 1) rfl) (fun i hi => col_wf (ff5 i hi) (j := 2) rfl) x6 wx6 x7 wx7 n8 hn8 (icol f8 0) (icol f8 1) (fun i hi => col_wf (ff8 i hi) (j := 0) rfl) (fun i hi => col_wf (ff8 i hi) (j := 1) rfl) n9 hn9 x9_0 x9_1 x9_2 len9_3 hlen9_3 (fun q => icol (gg9_3 q) 0)) rfl hrel (by exact ⟨⟨_, rfl, ⟨rfl, rfl, rfl, (hr4 _ (fun b _ => roM2 LL b 0) 0 rfl (by simp [LL])).1, (hr5 _ (fun b _ => roM2 LL b 0) 1 rfl (by simp [LL])).1, rfl, rfl, (hr8 _ (fun b _ => roM2 LL b 0) 2 rfl (by simp [LL])).1, hl9 _ _ 3 rfl (by simp [LL]), trivial⟩⟩, trivial⟩)).mono fun e W' he => ?_
  obtain ⟨rfl, bel⟩ := he
  exact ⟨_, rfl, _, _, _, [], _, [], hW', trodAll_mk1 (shut_bool Try.underlying4 _), (trodAll_cons_mk (Below.trod laidOut (by kernel_rfl) (of_decide_eq_true (by kernel_rfl)) k0_ bel lt0) trodAll_mk0), rfl, bel.frame _, fun h => by cases h⟩
theorem over : Rows.fnExactFoldOkRow.holds Try.pinned (OpenSpec.ofChange Rows.fnExactFoldOkSpec) :=
  OpenClaim.holds_of_wide 4 Try.f4 rfl rfl rfl rfl rfl rfl rfl ⟨rfl, rfl, rfl, rfl, rfl⟩ rfl rfl rfl rfl rfl (by kernel_rfl) Try.func4 (by kernel_rfl)
    (of_decide_eq_true (by kernel_rfl)) (by unfold Func.isWrapper; first | (rw [if_pos (by decide +kernel)]; kernel_rfl) | (rw [if_neg (by decide +kernel)]; exact ⟨rfl, rfl⟩))
    (fun os started H enc _ => lifted os started H enc)
theorem proved : Rows.FnExactFoldOkSaid := over
#print axioms proved
end Go.Proofs.Ytjdglheacigbnaa.fnExactFoldOk
namespace Go.Proofs.Ytjdglheacigbnaa
/-- The row, under a short name, for the claim. -/
theorem fnExactFoldOk_holds : Rows.FnExactFoldOkSaid := fnExactFoldOk.proved
end Go.Proofs.Ytjdglheacigbnaa
