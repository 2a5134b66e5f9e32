/- Printed by a program of this session over the kit's print, for function values too. Lean checks it. -/
import Derived.Test.YtekhlpkodgjdeaaPFnExactTableLeavex0
import Derived.Test.YtekhlpkodgjdeaaPFnExactTableLeavex1
import Derived.Test.YtekhlpkodgjdeaaPFnExactTableLeavex2
import Derived.Test.YtekhlpkodgjdeaaPFnExactTableLeavex3
import Derived.Test.YtekhlpkodgjdeaaPFnExactTableLeavex5
namespace Go.Proofs.Ytekhlpkodgjdeaa.PFnExactTableLeave
open Go.RowKit Go.Proofs.YtekhlpkodgjdeaaH Go.Proofs.YtekhlpkodgjdeaaW.PrintWords Go.Proofs.YtekhlpkodgjdeaaW.PrintLast Go.Proofs.YtekhlpkodgjdeaaW.PrintMore
attribute [local go_sem] max2_int min2_int max_two min_two max_three min_three max_four min_four   -- for this text's walks alone
set_option linter.unusedVariables false
set_option linter.unusedSimpArgs false

/-! ### laws_FnExactTableLeave: function 6 -/
mutual
def laws_FnExactTableLeave.j0 : Nat → Int → Int → Int → Bool → Int → Int → List (S72) → Int → Int → List (S40) → Int → Int → List (S40) → Int → Int → List (S40) → Option (Bool)
 | 0, _, _, _, _, _, _, _, _, _, _, _, _, _, _, _, _ => none
 | k + 1, x1, x7, x10, x44, x240000, x240001, x240002, x253000, x253001, x253002, x259000, x259001, x259002, x266000, x266001, x266002 => if x44 = true then (some false) else ((laws_toTable.f k x240000 x240001 x240002).bind fun bt267 => ((laws_eqTable.f k x259000 x259001 x259002 bt267.1 bt267.2.1 bt267.2.2).bind fun t272 => (if t272 = true then ((laws_markTable.f k x259000 x259001 x259002 1).bind fun bt273 => (if bt273.1 < 0 then (laws_FnExactTableLeave.j1 k x1 x7 true x240000 x240001 x240002 x253000 x253001 x253002 x266000 x266001 x266002) else ((laws_eqTable.f k x266000 x266001 x266002 x253000 x253001 x253002).bind fun t275 => (if t275 = true then (laws_FnExactTableLeave.j1 k x1 x7 (x10 != x7) x240000 x240001 x240002 x253000 x253001 x253002 x266000 x266001 x266002) else (laws_FnExactTableLeave.j1 k x1 x7 true x240000 x240001 x240002 x253000 x253001 x253002 x266000 x266001 x266002))))) else (some false))))
def laws_FnExactTableLeave.j1 : Nat → Int → Int → Bool → Int → Int → List (S72) → Int → Int → List (S40) → Int → Int → List (S40) → Option (Bool)
 | 0, _, _, _, _, _, _, _, _, _, _, _, _ => none
 | k + 1, x1, x7, x65, x240000, x240001, x240002, x253000, x253001, x253002, x266000, x266001, x266002 => if x65 = true then (some false) else ((laws_markTable.f k x266000 x266001 x266002 1).bind fun bt276 => ((laws_heldTable.f k x266000 x266001 bt276.2 1).bind fun t278 => (if t278 < 0 then (some false) else (if t278 = bt276.1 then ((laws_toTable.f k x240000 x240001 x240002).bind fun bt279 => ((impl_TableLeave.f k bt279.1 bt279.2.1 bt279.2.2 x1).bind fun bt284 => ((laws_eqTable.f k bt284.1 bt284.2.1 bt284.2.2.1 x253000 x253001 x253002).bind fun t291 => (if t291 = true then (laws_FnExactTableLeave.j2 k bt276.1 (bt284.2.2.2 != x7) x266000 x266001 bt276.2) else (laws_FnExactTableLeave.j2 k bt276.1 true x266000 x266001 bt276.2))))) else (some false)))))
def laws_FnExactTableLeave.j2 : Nat → Int → Bool → Int → Int → List (S40) → Option (Bool)
 | 0, _, _, _, _, _ => none
 | k + 1, x12, x92, x266000, x266001, x266002 => if x92 = true then (some false) else ((laws_heldTable.f k x266000 x266001 x266002 1).bind fun t292 => (if t292 < 0 then (some false) else (if t292 = x12 then (some true) else (some false))))
end
def laws_FnExactTableLeave.f (k : Nat) (a0_0 : Int) (a0_1 : Int) (l0_2 : List (S72)) (a1 : Int) : Option (Bool) := (laws_szTable.f a0_0 a0_1 l0_2 1048576).bind fun t240 => (if t240 < 0 then (some true) else ((laws_toTable.f k a0_0 a0_1 l0_2).bind fun bt241 => ((spec_TableLeave.f k bt241.1 bt241.2.1 bt241.2.2 a1).bind fun bt246 => ((laws_toTable.f k a0_0 a0_1 l0_2).bind fun bt253 => ((impl_TableLeave.f k bt253.1 bt253.2.1 bt253.2.2 a1).bind fun bt259 => ((laws_eqTable.f k bt259.1 bt259.2.1 bt259.2.2.1 bt246.1 bt246.2.1 bt246.2.2.1).bind fun t266 => (if t266 = true then (laws_FnExactTableLeave.j0 k a1 bt246.2.2.2 bt259.2.2.2 (bt259.2.2.2 != bt246.2.2.2) a0_0 a0_1 l0_2 bt246.1 bt246.2.1 bt246.2.2.1 bt253.1 bt253.2.1 bt253.2.2 bt259.1 bt259.2.1 bt259.2.2.1) else (laws_FnExactTableLeave.j0 k a1 bt246.2.2.2 bt259.2.2.2 true a0_0 a0_1 l0_2 bt246.1 bt246.2.1 bt246.2.2.1 bt253.1 bt253.2.1 bt253.2.2 bt259.1 bt259.2.1 bt259.2.2.1))))))))
theorem laws_FnExactTableLeave.mono_l : ∀ k, (∀ y0 y1 y2 y3 y4 y5 y6 y7 y8 y9 y10 y11 y12 y13 y14 y15, LeO (laws_FnExactTableLeave.j0 k y0 y1 y2 y3 y4 y5 y6 y7 y8 y9 y10 y11 y12 y13 y14 y15) (laws_FnExactTableLeave.j0 (k + 1) y0 y1 y2 y3 y4 y5 y6 y7 y8 y9 y10 y11 y12 y13 y14 y15)) ∧ (∀ y0 y1 y2 y3 y4 y5 y6 y7 y8 y9 y10 y11, LeO (laws_FnExactTableLeave.j1 k y0 y1 y2 y3 y4 y5 y6 y7 y8 y9 y10 y11) (laws_FnExactTableLeave.j1 (k + 1) y0 y1 y2 y3 y4 y5 y6 y7 y8 y9 y10 y11)) ∧ (∀ y0 y1 y2 y3 y4, LeO (laws_FnExactTableLeave.j2 k y0 y1 y2 y3 y4) (laws_FnExactTableLeave.j2 (k + 1) y0 y1 y2 y3 y4))
 | 0 => ⟨fun _ _ _ _ _ _ _ _ _ _ _ _ _ _ _ _ r h => by simp [laws_FnExactTableLeave.j0] at h, fun _ _ _ _ _ _ _ _ _ _ _ _ r h => by simp [laws_FnExactTableLeave.j1] at h, fun _ _ _ _ _ r h => by simp [laws_FnExactTableLeave.j2] at h⟩
 | k + 1 => by
  obtain ⟨ih0, ih1, ih2⟩ := laws_FnExactTableLeave.mono_l k
  refine ⟨?_, ?_, ?_⟩
  ·intro y0 y1 y2 y3 y4 y5 y6 y7 y8 y9 y10 y11 y12 y13 y14 y15
   unfold laws_FnExactTableLeave.j0
   repeat' first
   | (with_reducible exact ih0 _ _ _ _ _ _ _ _ _ _ _ _ _ _ _ _)
   | (with_reducible exact ih1 _ _ _ _ _ _ _ _ _ _ _ _)
   | (with_reducible exact ih2 _ _ _ _ _)
   | (with_reducible exact impl_TableLeave.mono _ _ _ _ _)
   | (with_reducible exact laws_eqTable.mono _ _ _ _ _ _ _)
   | (with_reducible exact laws_heldTable.mono _ _ _ _ _)
   | (with_reducible exact laws_markTable.mono _ _ _ _ _)
   | (with_reducible exact laws_toTable.mono _ _ _ _)
   | (with_reducible exact spec_TableLeave.mono _ _ _ _ _)
   | (with_reducible exact LeO.refl _)
   | (with_reducible exact LeO.none _)
   | (with_reducible refine LeO.ite ?_ ?_)
   | (with_reducible refine LeO.bind ?_ (fun _ => ?_))
   | exact ih0 _ _ _ _ _ _ _ _ _ _ _ _ _ _ _ _
   | exact ih1 _ _ _ _ _ _ _ _ _ _ _ _
   | exact ih2 _ _ _ _ _
   | exact impl_TableLeave.mono _ _ _ _ _
   | exact laws_eqTable.mono _ _ _ _ _ _ _
   | exact laws_heldTable.mono _ _ _ _ _
   | exact laws_markTable.mono _ _ _ _ _
   | exact laws_toTable.mono _ _ _ _
   | exact spec_TableLeave.mono _ _ _ _ _
   | exact LeO.none _
   | refine LeO.ite ?_ ?_
   | refine LeO.bind ?_ (fun _ => ?_)
  ·intro y0 y1 y2 y3 y4 y5 y6 y7 y8 y9 y10 y11
   unfold laws_FnExactTableLeave.j1
   repeat' first
   | (with_reducible exact ih0 _ _ _ _ _ _ _ _ _ _ _ _ _ _ _ _)
   | (with_reducible exact ih1 _ _ _ _ _ _ _ _ _ _ _ _)
   | (with_reducible exact ih2 _ _ _ _ _)
   | (with_reducible exact impl_TableLeave.mono _ _ _ _ _)
   | (with_reducible exact laws_eqTable.mono _ _ _ _ _ _ _)
   | (with_reducible exact laws_heldTable.mono _ _ _ _ _)
   | (with_reducible exact laws_markTable.mono _ _ _ _ _)
   | (with_reducible exact laws_toTable.mono _ _ _ _)
   | (with_reducible exact spec_TableLeave.mono _ _ _ _ _)
   | (with_reducible exact LeO.refl _)
   | (with_reducible exact LeO.none _)
   | (with_reducible refine LeO.ite ?_ ?_)
   | (with_reducible refine LeO.bind ?_ (fun _ => ?_))
   | exact ih0 _ _ _ _ _ _ _ _ _ _ _ _ _ _ _ _
   | exact ih1 _ _ _ _ _ _ _ _ _ _ _ _
   | exact ih2 _ _ _ _ _
   | exact impl_TableLeave.mono _ _ _ _ _
   | exact laws_eqTable.mono _ _ _ _ _ _ _
   | exact laws_heldTable.mono _ _ _ _ _
   | exact laws_markTable.mono _ _ _ _ _
   | exact laws_toTable.mono _ _ _ _
   | exact spec_TableLeave.mono _ _ _ _ _
   | exact LeO.none _
   | refine LeO.ite ?_ ?_
   | refine LeO.bind ?_ (fun _ => ?_)
  ·intro y0 y1 y2 y3 y4
   unfold laws_FnExactTableLeave.j2
   repeat' first
   | (with_reducible exact ih0 _ _ _ _ _ _ _ _ _ _ _ _ _ _ _ _)
   | (with_reducible exact ih1 _ _ _ _ _ _ _ _ _ _ _ _)
   | (with_reducible exact ih2 _ _ _ _ _)
   | (with_reducible exact impl_TableLeave.mono _ _ _ _ _)
   | (with_reducible exact laws_eqTable.mono _ _ _ _ _ _ _)
   | (with_reducible exact laws_heldTable.mono _ _ _ _ _)
   | (with_reducible exact laws_markTable.mono _ _ _ _ _)
   | (with_reducible exact laws_toTable.mono _ _ _ _)
   | (with_reducible exact spec_TableLeave.mono _ _ _ _ _)
   | (with_reducible exact LeO.refl _)
   | (with_reducible exact LeO.none _)
   | (with_reducible refine LeO.ite ?_ ?_)
   | (with_reducible refine LeO.bind ?_ (fun _ => ?_))
   | exact ih0 _ _ _ _ _ _ _ _ _ _ _ _ _ _ _ _
   | exact ih1 _ _ _ _ _ _ _ _ _ _ _ _
   | exact ih2 _ _ _ _ _
   | exact impl_TableLeave.mono _ _ _ _ _
   | exact laws_eqTable.mono _ _ _ _ _ _ _
   | exact laws_heldTable.mono _ _ _ _ _
   | exact laws_markTable.mono _ _ _ _ _
   | exact laws_toTable.mono _ _ _ _
   | exact spec_TableLeave.mono _ _ _ _ _
   | exact LeO.none _
   | refine LeO.ite ?_ ?_
   | refine LeO.bind ?_ (fun _ => ?_)
theorem laws_FnExactTableLeave.mono : ∀ a0 a1 a2 a3 k, LeO (laws_FnExactTableLeave.f k a0 a1 a2 a3) (laws_FnExactTableLeave.f (k + 1) a0 a1 a2 a3) := by
 intro a0 a1 a2 a3 k
 obtain ⟨ih0, ih1, ih2⟩ := laws_FnExactTableLeave.mono_l k
 unfold laws_FnExactTableLeave.f
 repeat' first
   | (with_reducible exact ih0 _ _ _ _ _ _ _ _ _ _ _ _ _ _ _ _)
   | (with_reducible exact ih1 _ _ _ _ _ _ _ _ _ _ _ _)
   | (with_reducible exact ih2 _ _ _ _ _)
   | (with_reducible exact impl_TableLeave.mono _ _ _ _ _)
   | (with_reducible exact laws_eqTable.mono _ _ _ _ _ _ _)
   | (with_reducible exact laws_heldTable.mono _ _ _ _ _)
   | (with_reducible exact laws_markTable.mono _ _ _ _ _)
   | (with_reducible exact laws_toTable.mono _ _ _ _)
   | (with_reducible exact spec_TableLeave.mono _ _ _ _ _)
   | (with_reducible exact LeO.refl _)
   | (with_reducible exact LeO.none _)
   | (with_reducible refine LeO.ite ?_ ?_)
   | (with_reducible refine LeO.bind ?_ (fun _ => ?_))
   | exact ih0 _ _ _ _ _ _ _ _ _ _ _ _ _ _ _ _
   | exact ih1 _ _ _ _ _ _ _ _ _ _ _ _
   | exact ih2 _ _ _ _ _
   | exact impl_TableLeave.mono _ _ _ _ _
   | exact laws_eqTable.mono _ _ _ _ _ _ _
   | exact laws_heldTable.mono _ _ _ _ _
   | exact laws_markTable.mono _ _ _ _ _
   | exact laws_toTable.mono _ _ _ _
   | exact spec_TableLeave.mono _ _ _ _ _
   | exact LeO.none _
   | refine LeO.ite ?_ ?_
   | refine LeO.bind ?_ (fun _ => ?_)
set_option maxHeartbeats 8000000 in
set_option maxRecDepth 100000 in
theorem laws_FnExactTableLeave.calls (k : Nat) (a0_0 : Int) (a0_1 : Int) (A0_2 : Option Addr) (c0_2 : Nat) (l0_2 : List (S72)) (a1 : Int) (r : Bool) (w : World) (hr_ : r = true) (hr0_2 : Kd.C k72 w A0_2 l0_2.length l0_2) (hc0_2 : l0_2.length ≤ c0_2) (h : laws_FnExactTableLeave.f k a0_0 a0_1 l0_2 a1 = some r) :
  Calls Try.prog 6 #[.agg #[.int .i64 a0_0, .int .i64 a0_1, .slice A0_2 l0_2.length c0_2], .int .i64 a1] w fun e w' => e = .returned (.bool r) ∧ Below w.heap.size w w' := by
 have HTR := Aside0.mk hr_
 clear hr_
 have hu24 := Try.underlying24
 have hu29 := Try.underlying29
 have HR0_2 := Aside0.mk hr0_2
 have HC0_2 := Aside0.mk hc0_2
 clear hr0_2 hc0_2
 have HB := Aside0.mk (Below.refl w.heap.size w)
 have H : ((laws_szTable.f a0_0 a0_1 l0_2 1048576).bind fun t240 => (if t240 < 0 then (some true) else ((laws_toTable.f k a0_0 a0_1 l0_2).bind fun bt241 => ((spec_TableLeave.f k bt241.1 bt241.2.1 bt241.2.2 a1).bind fun bt246 => ((laws_toTable.f k a0_0 a0_1 l0_2).bind fun bt253 => ((impl_TableLeave.f k bt253.1 bt253.2.1 bt253.2.2 a1).bind fun bt259 => ((laws_eqTable.f k bt259.1 bt259.2.1 bt259.2.2.1 bt246.1 bt246.2.1 bt246.2.2.1).bind fun t266 => (if t266 = true then (laws_FnExactTableLeave.j0 k a1 bt246.2.2.2 bt259.2.2.2 (bt259.2.2.2 != bt246.2.2.2) a0_0 a0_1 l0_2 bt246.1 bt246.2.1 bt246.2.2.1 bt253.1 bt253.2.1 bt253.2.2 bt259.1 bt259.2.1 bt259.2.2.1) else (laws_FnExactTableLeave.j0 k a1 bt246.2.2.2 bt259.2.2.2 true a0_0 a0_1 l0_2 bt246.1 bt246.2.1 bt246.2.2.1 bt253.1 bt253.2.1 bt253.2.2 bt259.1 bt259.2.1 bt259.2.2.1))))))))) = some r := h
 clear h
 replace H := Option.bind_eq_some_iff.mp H
 obtain ⟨t240, A30, H⟩ := H
 replace H : (if t240 < 0 then (some true) else ((laws_toTable.f k a0_0 a0_1 l0_2).bind fun bt241 => ((spec_TableLeave.f k bt241.1 bt241.2.1 bt241.2.2 a1).bind fun bt246 => ((laws_toTable.f k a0_0 a0_1 l0_2).bind fun bt253 => ((impl_TableLeave.f k bt253.1 bt253.2.1 bt253.2.2 a1).bind fun bt259 => ((laws_eqTable.f k bt259.1 bt259.2.1 bt259.2.2.1 bt246.1 bt246.2.1 bt246.2.2.1).bind fun t266 => (if t266 = true then (laws_FnExactTableLeave.j0 k a1 bt246.2.2.2 bt259.2.2.2 (bt259.2.2.2 != bt246.2.2.2) a0_0 a0_1 l0_2 bt246.1 bt246.2.1 bt246.2.2.1 bt253.1 bt253.2.1 bt253.2.2 bt259.1 bt259.2.1 bt259.2.2.1) else (laws_FnExactTableLeave.j0 k a1 bt246.2.2.2 bt259.2.2.2 true a0_0 a0_1 l0_2 bt246.1 bt246.2.1 bt246.2.2.1 bt253.1 bt253.2.1 bt253.2.2 bt259.1 bt259.2.1 bt259.2.2.1)))))))) = some r := H
 have A3 := Aside0.mk A30
 clear A30
 by_cases c4 : t240 < 0
 ·rw [if_pos c4] at H
  have c4b0 : decide (t240 < 0) = true := decide_eq_true c4
  clear c4
  obtain rfl := Option.some.inj H
  go_enter Try.func6, Try.ntmps6
  go_wp2_with (first | ((with_reducible refine gate_dst (N := 2) rfl ?_); refine box_event ?hg (N := 2) ?hd (cs := #[.int .i64 a0_0, .int .i64 a0_1, .slice A0_2 l0_2.length c0_2]) (t := 24) ?hr ?_; (case hd => rfl); (case hg => rfl); (case hr => first | (go_simp; done) | (go_simp; rfl)); intro gb239 hg w5 hbox hb; have n0_ := Aside0.mk (below_step (by repeat (first | (with_reducible first | exact HB.out | apply ba | apply bn | apply bd) | exact HB.out)) hb); have n1_ := Aside0.mk (hbox); have n2_ := Aside0.mk ((by rw [hg]; exact (below_size (by repeat (first | (with_reducible first | exact HB.out | apply ba | apply bn | apply bd) | exact HB.out))) : w.heap.size ≤ gb239)); have n3_ := Aside0.mk ((by rw [hg]; exact (below_size (by repeat (first | (with_reducible first | exact HB.out | apply ba | apply bn | apply bd) | exact HB.out))) : w.heap.size ≤ gb239)); clear HB; have HB := n0_; have BK239 := n1_; have GW239 := n2_; have GE239 := n3_; clear n0_ n1_ n2_ n3_; clear hb hbox hg; have hcz6_0 : w5.cell? ⟨gb239, 0, none⟩ = some (.int .i64 a0_0) := cl BK239.out 0 rfl; have hcz6_1 : w5.cell? ⟨gb239, 1, none⟩ = some (.int .i64 a0_1) := cl BK239.out 1 rfl; have hcz6_2 : w5.cell? ⟨gb239, 2, none⟩ = some (.slice A0_2 l0_2.length c0_2) := cl BK239.out 2 rfl; have hfz6_0 := fz BK239.out 0; have hfz6_1 := fz BK239.out 1; have hfz6_2 := fz BK239.out 2) | ((with_reducible refine gate_callee (f := 17) rfl ?_); refine goesL_ (some 18) rfl rfl Try.func17 (by kernel_rfl) rfl #[.agg #[.int .i64 a0_0, .int .i64 a0_1, .slice A0_2 l0_2.length c0_2], .int .i64 1048576] rfl (by (try simp only [List.map_toArray, List.map_cons, List.map_nil]); first | done | rfl | (simp only [List.length_drop, List.length_take]; rfl)) ?_; (with_reducible refine (laws_szTable.calls a0_0 a0_1 _ _ l0_2 1048576 t240 _ ?side1 ?side2 A3.out).mono ?_); (case side1 => repeat (first | exact (Kd.C_below HR0_2.out HB.out) | (with_reducible refine Kd.C_alloc ?_ _) | (with_reducible refine Kd.C_drewN ?_ _) | (with_reducible refine Kd.C_drew ?_))); (case side2 => exact HC0_2.out); rintro e w7 ⟨rfl, hb⟩; refine ⟨_, rfl, ?_⟩; have n0_ := Aside0.mk (blk_below (g := gb239) (o := .cells #[.int .i64 a0_0, .int .i64 a0_1, .slice A0_2 l0_2.length c0_2] 24 (0, 0)) (by (with_reducible repeat (first | refine blk_drewN ?_ _ | refine blk_drew ?_ | refine blk_alloc ?_ _)); exact BK239.out) hb); have n1_ := Aside0.mk (below_step (by repeat (first | (with_reducible first | exact HB.out | apply ba | apply bn | apply bd | refine bt ?_ GE239.out) | exact HB.out)) hb); clear BK239; clear HB; have BK239 := n0_; have HB := n1_; clear n0_ n1_; (try clear hb); (try clear hb2); (try clear hk); (try clear hi)))
  go_ret
  exact ⟨by first | rfl | (simp [errW_none, errW_some] <;> rfl) | (simp [*, errW_none, errW_some] <;> rfl), by repeat (first | (with_reducible first | exact HB.out | apply ba | apply bn | apply bd | refine bt ?_ GE239.out) | exact HB.out)⟩
 ·rw [if_neg c4] at H
  have c4b0 : decide (t240 < 0) = false := decide_eq_false c4
  clear c4
  replace H := Option.bind_eq_some_iff.mp H
  obtain ⟨⟨t241, t242, t243⟩, A80, H⟩ := H
  replace H : ((spec_TableLeave.f k t241 t242 t243 a1).bind fun bt246 => ((laws_toTable.f k a0_0 a0_1 l0_2).bind fun bt253 => ((impl_TableLeave.f k bt253.1 bt253.2.1 bt253.2.2 a1).bind fun bt259 => ((laws_eqTable.f k bt259.1 bt259.2.1 bt259.2.2.1 bt246.1 bt246.2.1 bt246.2.2.1).bind fun t266 => (if t266 = true then (laws_FnExactTableLeave.j0 k a1 bt246.2.2.2 bt259.2.2.2 (bt259.2.2.2 != bt246.2.2.2) a0_0 a0_1 l0_2 bt246.1 bt246.2.1 bt246.2.2.1 bt253.1 bt253.2.1 bt253.2.2 bt259.1 bt259.2.1 bt259.2.2.1) else (laws_FnExactTableLeave.j0 k a1 bt246.2.2.2 bt259.2.2.2 true a0_0 a0_1 l0_2 bt246.1 bt246.2.1 bt246.2.2.1 bt253.1 bt253.2.1 bt253.2.2 bt259.1 bt259.2.1 bt259.2.2.1)))))) = some r := H
  have A8 := Aside0.mk A80
  clear A80
  replace H := Option.bind_eq_some_iff.mp H
  obtain ⟨⟨t246, t247, t248, t251⟩, A90, H⟩ := H
  replace H : ((laws_toTable.f k a0_0 a0_1 l0_2).bind fun bt253 => ((impl_TableLeave.f k bt253.1 bt253.2.1 bt253.2.2 a1).bind fun bt259 => ((laws_eqTable.f k bt259.1 bt259.2.1 bt259.2.2.1 t246 t247 t248).bind fun t266 => (if t266 = true then (laws_FnExactTableLeave.j0 k a1 t251 bt259.2.2.2 (bt259.2.2.2 != t251) a0_0 a0_1 l0_2 t246 t247 t248 bt253.1 bt253.2.1 bt253.2.2 bt259.1 bt259.2.1 bt259.2.2.1) else (laws_FnExactTableLeave.j0 k a1 t251 bt259.2.2.2 true a0_0 a0_1 l0_2 t246 t247 t248 bt253.1 bt253.2.1 bt253.2.2 bt259.1 bt259.2.1 bt259.2.2.1))))) = some r := H
  have A9 := Aside0.mk A90
  clear A90
  replace H := Option.bind_eq_some_iff.mp H
  obtain ⟨⟨t253, t254, t255⟩, A100, H⟩ := H
  replace H : ((impl_TableLeave.f k t253 t254 t255 a1).bind fun bt259 => ((laws_eqTable.f k bt259.1 bt259.2.1 bt259.2.2.1 t246 t247 t248).bind fun t266 => (if t266 = true then (laws_FnExactTableLeave.j0 k a1 t251 bt259.2.2.2 (bt259.2.2.2 != t251) a0_0 a0_1 l0_2 t246 t247 t248 t253 t254 t255 bt259.1 bt259.2.1 bt259.2.2.1) else (laws_FnExactTableLeave.j0 k a1 t251 bt259.2.2.2 true a0_0 a0_1 l0_2 t246 t247 t248 t253 t254 t255 bt259.1 bt259.2.1 bt259.2.2.1)))) = some r := H
  have A10 := Aside0.mk A100
  clear A100
  replace H := Option.bind_eq_some_iff.mp H
  obtain ⟨⟨t259, t260, t261, t264⟩, A110, H⟩ := H
  replace H : ((laws_eqTable.f k t259 t260 t261 t246 t247 t248).bind fun t266 => (if t266 = true then (laws_FnExactTableLeave.j0 k a1 t251 t264 (t264 != t251) a0_0 a0_1 l0_2 t246 t247 t248 t253 t254 t255 t259 t260 t261) else (laws_FnExactTableLeave.j0 k a1 t251 t264 true a0_0 a0_1 l0_2 t246 t247 t248 t253 t254 t255 t259 t260 t261))) = some r := H
  have A11 := Aside0.mk A110
  clear A110
  have HC12 := Aside0.mk H
  clear H
  go_enter Try.func6, Try.ntmps6
  go_upto_region 8 with (first | ((with_reducible refine gate_dst (N := 2) rfl ?_); refine box_event ?hg (N := 2) ?hd (cs := #[.int .i64 a0_0, .int .i64 a0_1, .slice A0_2 l0_2.length c0_2]) (t := 24) ?hr ?_; (case hd => rfl); (case hg => rfl); (case hr => first | (go_simp; done) | (go_simp; rfl)); intro gb239 hg w13 hbox hb; have n0_ := Aside0.mk (below_step (by repeat (first | (with_reducible first | exact HB.out | apply ba | apply bn | apply bd) | exact HB.out)) hb); have n1_ := Aside0.mk (hbox); have n2_ := Aside0.mk ((by rw [hg]; exact (below_size (by repeat (first | (with_reducible first | exact HB.out | apply ba | apply bn | apply bd) | exact HB.out))) : w.heap.size ≤ gb239)); have n3_ := Aside0.mk ((by rw [hg]; exact (below_size (by repeat (first | (with_reducible first | exact HB.out | apply ba | apply bn | apply bd) | exact HB.out))) : w.heap.size ≤ gb239)); clear HB; have HB := n0_; have BK239 := n1_; have GW239 := n2_; have GE239 := n3_; clear n0_ n1_ n2_ n3_; clear hb hbox hg; have hcz14_0 : w13.cell? ⟨gb239, 0, none⟩ = some (.int .i64 a0_0) := cl BK239.out 0 rfl; have hcz14_1 : w13.cell? ⟨gb239, 1, none⟩ = some (.int .i64 a0_1) := cl BK239.out 1 rfl; have hcz14_2 : w13.cell? ⟨gb239, 2, none⟩ = some (.slice A0_2 l0_2.length c0_2) := cl BK239.out 2 rfl; have hfz14_0 := fz BK239.out 0; have hfz14_1 := fz BK239.out 1; have hfz14_2 := fz BK239.out 2) | ((with_reducible refine gate_callee (f := 17) rfl ?_); refine goesL_ (some 18) rfl rfl Try.func17 (by kernel_rfl) rfl #[.agg #[.int .i64 a0_0, .int .i64 a0_1, .slice A0_2 l0_2.length c0_2], .int .i64 1048576] rfl (by (try simp only [List.map_toArray, List.map_cons, List.map_nil]); first | done | rfl | (simp only [List.length_drop, List.length_take]; rfl)) ?_; (with_reducible refine (laws_szTable.calls a0_0 a0_1 _ _ l0_2 1048576 t240 _ ?side1 ?side2 A3.out).mono ?_); (case side1 => repeat (first | exact (Kd.C_below HR0_2.out HB.out) | (with_reducible refine Kd.C_alloc ?_ _) | (with_reducible refine Kd.C_drewN ?_ _) | (with_reducible refine Kd.C_drew ?_))); (case side2 => exact HC0_2.out); rintro e w15 ⟨rfl, hb⟩; refine ⟨_, rfl, ?_⟩; have n0_ := Aside0.mk (blk_below (g := gb239) (o := .cells #[.int .i64 a0_0, .int .i64 a0_1, .slice A0_2 l0_2.length c0_2] 24 (0, 0)) (by (with_reducible repeat (first | refine blk_drewN ?_ _ | refine blk_drew ?_ | refine blk_alloc ?_ _)); exact BK239.out) hb); have n1_ := Aside0.mk (below_step (by repeat (first | (with_reducible first | exact HB.out | apply ba | apply bn | apply bd | refine bt ?_ GE239.out) | exact HB.out)) hb); clear BK239; clear HB; have BK239 := n0_; have HB := n1_; clear n0_ n1_; (try clear hb); (try clear hb2); (try clear hk); (try clear hi); have hcz16_0 : w15.cell? ⟨gb239, 0, none⟩ = some (.int .i64 a0_0) := cl BK239.out 0 rfl; have hcz16_1 : w15.cell? ⟨gb239, 1, none⟩ = some (.int .i64 a0_1) := cl BK239.out 1 rfl; have hcz16_2 : w15.cell? ⟨gb239, 2, none⟩ = some (.slice A0_2 l0_2.length c0_2) := cl BK239.out 2 rfl; have hfz16_0 := fz BK239.out 0; have hfz16_1 := fz BK239.out 1; have hfz16_2 := fz BK239.out 2) | ((with_reducible refine gate_callee (f := 19) rfl ?_); refine goesL_ (some 23) rfl rfl Try.func19 (by kernel_rfl) rfl #[.agg #[.int .i64 a0_0, .int .i64 a0_1, .slice A0_2 l0_2.length c0_2]] rfl (by (try simp only [List.map_toArray, List.map_cons, List.map_nil]); first | done | rfl | (simp only [List.length_drop, List.length_take]; rfl)) ?_; (with_reducible refine (laws_toTable.calls k a0_0 a0_1 _ _ l0_2 t241 t242 t243 _ ?side1 ?side2 A8.out).mono ?_); (case side1 => repeat (first | exact (Kd.C_below HR0_2.out HB.out) | (with_reducible refine Kd.C_alloc ?_ _) | (with_reducible refine Kd.C_drewN ?_ _) | (with_reducible refine Kd.C_drew ?_))); (case side2 => exact HC0_2.out); rintro e w17 ⟨v244, rfl, ho0, hb⟩; refine ⟨_, rfl, ?_⟩; have n0_ := Aside0.mk (Kd.R_lower ho0 (below_size (by repeat (first | (with_reducible first | exact HB.out | apply ba | apply bn | apply bd | refine bt ?_ GE239.out) | exact HB.out)))); have n1_ := Aside0.mk (blk_below (g := gb239) (o := .cells #[.int .i64 a0_0, .int .i64 a0_1, .slice A0_2 l0_2.length c0_2] 24 (0, 0)) (by (with_reducible repeat (first | refine blk_drewN ?_ _ | refine blk_drew ?_ | refine blk_alloc ?_ _)); exact BK239.out) hb); have n2_ := Aside0.mk (below_step (by repeat (first | (with_reducible first | exact HB.out | apply ba | apply bn | apply bd | refine bt ?_ GE239.out) | exact HB.out)) hb); clear BK239; clear HB; have HO245 := n0_; have BK239 := n1_; have HB := n2_; clear n0_ n1_ n2_; (try clear hb); (try clear hb2); (try clear hk); (try clear hi); (try clear ho0); obtain ⟨Ao18, co18, eo18⟩ := Kd.R_slice HO245.out; subst eo18) | ((with_reducible refine gate_callee (f := 28) rfl ?_); refine goesL_ (some 25) rfl rfl Try.func28 (by kernel_rfl) rfl #[.agg #[.int .i64 t241, .int .i64 t242, .slice Ao18 t243.length co18], .int .i64 a1] rfl (by (try simp only [List.map_toArray, List.map_cons, List.map_nil]); first | done | rfl | (simp only [List.length_drop, List.length_take]; rfl)) ?_; (with_reducible refine (spec_TableLeave.calls k t241 t242 _ _ t243 a1 t246 t247 t248 t251 _ ?side1 ?side2 A9.out).mono ?_); (case side1 => repeat (first | exact (Kd.R_reads' HO245.out).2.2 | (with_reducible refine Kd.C_alloc ?_ _) | (with_reducible refine Kd.C_drewN ?_ _) | (with_reducible refine Kd.C_drew ?_))); (case side2 => exact (Kd.R_reads' HO245.out).2.1); rintro e w19 ⟨v249, rfl, ho0, hb⟩; refine ⟨_, rfl, ?_⟩; have n0_ := Aside0.mk (Kd.R_elder' (by (with_reducible repeat (first | apply Kd.R_alloc | apply Kd.R_drewN | apply Kd.R_drew)); exact HO245.out) (Kd.R_base ho0) hb); have n1_ := Aside0.mk (Kd.R_lower (Kd.R_new' ho0 (Kd.R_lt (by (with_reducible repeat (first | apply Kd.R_alloc | apply Kd.R_drewN | apply Kd.R_drew)); exact HO245.out))) (below_size (by repeat (first | (with_reducible first | exact HB.out | apply ba | apply bn | apply bd | refine bt ?_ GE239.out) | exact HB.out)))); have n2_ := Aside0.mk (blk_below (g := gb239) (o := .cells #[.int .i64 a0_0, .int .i64 a0_1, .slice A0_2 l0_2.length c0_2] 24 (0, 0)) (by (with_reducible repeat (first | refine blk_drewN ?_ _ | refine blk_drew ?_ | refine blk_alloc ?_ _)); exact BK239.out) hb); have n3_ := Aside0.mk (below_step (by repeat (first | (with_reducible first | exact HB.out | apply ba | apply bn | apply bd | refine bt ?_ GE239.out) | exact HB.out)) hb); clear HO245; clear BK239; clear HB; have HO245 := n0_; have HO250 := n1_; have BK239 := n2_; have HB := n3_; clear n0_ n1_ n2_ n3_; (try clear hb); (try clear hb2); (try clear hk); (try clear hi); (try clear ho0)) | ((with_reducible refine gate_dst (N := 6) rfl ?_); refine box_event ?hg (N := 6) ?hd (cs := #[.int .i64 0, .int .i64 0, .slice none 0 0]) (t := 29) ?hr ?_; (case hd => rfl); (case hg => rfl); (case hr => first | (go_simp; done) | (go_simp; rfl)); intro gb252 hg w20 hbox hb; have n0_ := Aside0.mk (Kd.R_below (by (with_reducible repeat (first | apply Kd.R_alloc | apply Kd.R_drewN | apply Kd.R_drew)); exact HO245.out) hb); have n1_ := Aside0.mk (Kd.R_below (by (with_reducible repeat (first | apply Kd.R_alloc | apply Kd.R_drewN | apply Kd.R_drew)); exact HO250.out) hb); have n2_ := Aside0.mk (blk_below (g := gb239) (o := .cells #[.int .i64 a0_0, .int .i64 a0_1, .slice A0_2 l0_2.length c0_2] 24 (0, 0)) (by (with_reducible repeat (first | refine blk_drewN ?_ _ | refine blk_drew ?_ | refine blk_alloc ?_ _)); exact BK239.out) hb); have n3_ := Aside0.mk (below_step (by repeat (first | (with_reducible first | exact HB.out | apply ba | apply bn | apply bd | refine bt ?_ GE239.out) | exact HB.out)) hb); have n4_ := Aside0.mk (hbox); have n5_ := Aside0.mk ((by rw [hg]; exact (below_size (by repeat (first | (with_reducible first | exact HB.out | apply ba | apply bn | apply bd | refine bt ?_ GE239.out) | exact HB.out))) : w.heap.size ≤ gb252)); have n6_ := Aside0.mk ((by rw [hg]; exact (below_size (by repeat (first | (with_reducible first | exact HB.out | apply ba | apply bn | apply bd | refine bt ?_ GE239.out) | exact HB.out))) : w.heap.size ≤ gb252)); have n7_ := Aside0.mk ((by rw [hg]; exact Nat.ne_of_lt (blk_lt (g := gb239) (o := .cells #[.int .i64 a0_0, .int .i64 a0_1, .slice A0_2 l0_2.length c0_2] 24 (0, 0)) (by (with_reducible repeat (first | refine blk_drewN ?_ _ | refine blk_drew ?_ | refine blk_alloc ?_ _)); exact BK239.out)) : gb239 ≠ gb252)); have n8_ := Aside0.mk ((by rw [hg]; exact Nat.ne_of_gt (blk_lt (g := gb239) (o := .cells #[.int .i64 a0_0, .int .i64 a0_1, .slice A0_2 l0_2.length c0_2] 24 (0, 0)) (by (with_reducible repeat (first | refine blk_drewN ?_ _ | refine blk_drew ?_ | refine blk_alloc ?_ _)); exact BK239.out)) : gb252 ≠ gb239)); clear HO245; clear HO250; clear BK239; clear HB; have HO245 := n0_; have HO250 := n1_; have BK239 := n2_; have HB := n3_; have BK252 := n4_; have GW252 := n5_; have GE252 := n6_; have NB239_252 := n7_; have NB252_239 := n8_; clear n0_ n1_ n2_ n3_ n4_ n5_ n6_ n7_ n8_; clear hb hbox hg; have hnb21 := NB252_239.out; have hnc21 := NB239_252.out; have hcz22_0 : w20.cell? ⟨gb252, 0, none⟩ = some (.int .i64 0) := cl BK252.out 0 rfl; have hcz22_1 : w20.cell? ⟨gb252, 1, none⟩ = some (.int .i64 0) := cl BK252.out 1 rfl; have hcz22_2 : w20.cell? ⟨gb252, 2, none⟩ = some (.slice none 0 0) := cl BK252.out 2 rfl; have hfz22_0 := fz BK252.out 0; have hfz22_1 := fz BK252.out 1; have hfz22_2 := fz BK252.out 2; obtain ⟨Ao23, co23, eo23⟩ := Kd.R_slice HO250.out; subst eo23; have hcz24_0 : w20.cell? ⟨gb239, 0, none⟩ = some (.int .i64 a0_0) := cl BK239.out 0 rfl; have hcz24_1 : w20.cell? ⟨gb239, 1, none⟩ = some (.int .i64 a0_1) := cl BK239.out 1 rfl; have hcz24_2 : w20.cell? ⟨gb239, 2, none⟩ = some (.slice A0_2 l0_2.length c0_2) := cl BK239.out 2 rfl; have hfz24_0 := fz BK239.out 0; have hfz24_1 := fz BK239.out 1; have hfz24_2 := fz BK239.out 2) | ((with_reducible refine gate_callee (f := 19) rfl ?_); refine goesL_ (some 29) rfl rfl Try.func19 (by kernel_rfl) rfl #[.agg #[.int .i64 a0_0, .int .i64 a0_1, .slice A0_2 l0_2.length c0_2]] rfl (by (try simp only [List.map_toArray, List.map_cons, List.map_nil]); first | done | rfl | (simp only [List.length_drop, List.length_take]; rfl)) ?_; (with_reducible refine (laws_toTable.calls k a0_0 a0_1 _ _ l0_2 t253 t254 t255 _ ?side1 ?side2 A10.out).mono ?_); (case side1 => exact Kd.C_below HR0_2.out (by repeat (first | (with_reducible first | exact HB.out | apply ba | apply bn | apply bd | refine bt ?_ GE239.out | refine bt ?_ GE252.out) | exact HB.out))); (case side2 => exact HC0_2.out); rintro e w25 ⟨v256, rfl, ho0, hb⟩; refine ⟨_, rfl, ?_⟩; have n0_ := Aside0.mk (Kd.R_elder' (by (with_reducible repeat (first | apply Kd.R_alloc | apply Kd.R_drewN | apply Kd.R_drew)); exact (Kd.R_mono (rF (rF (rF (Kd.R_types HO245.out BK252.out (by decide)) _ _) _ _) _ _) (fun _ h_ => h_.1))) (Kd.R_base ho0) hb); have n1_ := Aside0.mk (Kd.R_elder' (by (with_reducible repeat (first | apply Kd.R_alloc | apply Kd.R_drewN | apply Kd.R_drew)); exact (Kd.R_mono (rF (rF (rF (Kd.R_types HO250.out BK252.out (by decide)) _ _) _ _) _ _) (fun _ h_ => h_.1))) (Kd.R_base ho0) hb); have n2_ := Aside0.mk (Kd.R_lower (Kd.R_new' (Kd.R_new' ho0 (Kd.R_lt (by (with_reducible repeat (first | apply Kd.R_alloc | apply Kd.R_drewN | apply Kd.R_drew)); exact (Kd.R_mono (rF (rF (rF (Kd.R_types HO245.out BK252.out (by decide)) _ _) _ _) _ _) (fun _ h_ => h_.1))))) (Kd.R_lt (by (with_reducible repeat (first | apply Kd.R_alloc | apply Kd.R_drewN | apply Kd.R_drew)); exact (Kd.R_mono (rF (rF (rF (Kd.R_types HO250.out BK252.out (by decide)) _ _) _ _) _ _) (fun _ h_ => h_.1))))) (below_size (by repeat (first | (with_reducible first | exact HB.out | apply ba | apply bn | apply bd | refine bt ?_ GE239.out | refine bt ?_ GE252.out) | exact HB.out)))); have n3_ := Aside0.mk (blk_below (g := gb239) (o := .cells #[.int .i64 a0_0, .int .i64 a0_1, .slice A0_2 l0_2.length c0_2] 24 (0, 0)) (by (with_reducible repeat (first | refine blk_drewN ?_ _ | refine blk_drew ?_ | refine blk_alloc ?_ _)); refine blk_far ?_ NB239_252.out _; (with_reducible repeat (first | refine blk_drewN ?_ _ | refine blk_drew ?_ | refine blk_alloc ?_ _)); refine blk_far ?_ NB239_252.out _; (with_reducible repeat (first | refine blk_drewN ?_ _ | refine blk_drew ?_ | refine blk_alloc ?_ _)); refine blk_far ?_ NB239_252.out _; (with_reducible repeat (first | refine blk_drewN ?_ _ | refine blk_drew ?_ | refine blk_alloc ?_ _)); exact BK239.out) hb); have n4_ := Aside0.mk (blk_below (g := gb252) (o := .cells #[.int .i64 t246, .int .i64 t247, .slice Ao23 t248.length co23] 29 (0, 0)) (by (with_reducible repeat (first | refine blk_drewN ?_ _ | refine blk_drew ?_ | refine blk_alloc ?_ _)); refine blk_put (cs := #[.int .i64 t246, .int .i64 t247, .slice none 0 0]) ?_ 2 _ rfl; (with_reducible repeat (first | refine blk_drewN ?_ _ | refine blk_drew ?_ | refine blk_alloc ?_ _)); refine blk_put (cs := #[.int .i64 t246, .int .i64 0, .slice none 0 0]) ?_ 1 _ rfl; (with_reducible repeat (first | refine blk_drewN ?_ _ | refine blk_drew ?_ | refine blk_alloc ?_ _)); refine blk_put (cs := #[.int .i64 0, .int .i64 0, .slice none 0 0]) ?_ 0 _ rfl; (with_reducible repeat (first | refine blk_drewN ?_ _ | refine blk_drew ?_ | refine blk_alloc ?_ _)); exact BK252.out) hb); have n5_ := Aside0.mk (below_step (by repeat (first | (with_reducible first | exact HB.out | apply ba | apply bn | apply bd | refine bt ?_ GE239.out | refine bt ?_ GE252.out) | exact HB.out)) hb); clear HO245; clear HO250; clear BK239; clear BK252; clear HB; have HO245 := n0_; have HO250 := n1_; have HO257 := n2_; have BK239 := n3_; have BK252 := n4_; have HB := n5_; clear n0_ n1_ n2_ n3_ n4_ n5_; (try clear hb); (try clear hb2); (try clear hk); (try clear hi); (try clear ho0)) | ((with_reducible refine gate_dst (N := 8) rfl ?_); refine box_event ?hg (N := 8) ?hd (cs := #[.int .i64 0, .int .i64 0, .slice none 0 0]) (t := 29) ?hr ?_; (case hd => rfl); (case hg => rfl); (case hr => first | (go_simp; done) | (go_simp; rfl)); intro gb258 hg w26 hbox hb; have n0_ := Aside0.mk (Kd.R_below (by (with_reducible repeat (first | apply Kd.R_alloc | apply Kd.R_drewN | apply Kd.R_drew)); exact HO245.out) hb); have n1_ := Aside0.mk (Kd.R_below (by (with_reducible repeat (first | apply Kd.R_alloc | apply Kd.R_drewN | apply Kd.R_drew)); exact HO250.out) hb); have n2_ := Aside0.mk (Kd.R_below (by (with_reducible repeat (first | apply Kd.R_alloc | apply Kd.R_drewN | apply Kd.R_drew)); exact HO257.out) hb); have n3_ := Aside0.mk (blk_below (g := gb239) (o := .cells #[.int .i64 a0_0, .int .i64 a0_1, .slice A0_2 l0_2.length c0_2] 24 (0, 0)) (by (with_reducible repeat (first | refine blk_drewN ?_ _ | refine blk_drew ?_ | refine blk_alloc ?_ _)); exact BK239.out) hb); have n4_ := Aside0.mk (blk_below (g := gb252) (o := .cells #[.int .i64 t246, .int .i64 t247, .slice Ao23 t248.length co23] 29 (0, 0)) (by (with_reducible repeat (first | refine blk_drewN ?_ _ | refine blk_drew ?_ | refine blk_alloc ?_ _)); exact BK252.out) hb); have n5_ := Aside0.mk (below_step (by repeat (first | (with_reducible first | exact HB.out | apply ba | apply bn | apply bd | refine bt ?_ GE239.out | refine bt ?_ GE252.out) | exact HB.out)) hb); have n6_ := Aside0.mk (hbox); have n7_ := Aside0.mk ((by rw [hg]; exact (below_size (by repeat (first | (with_reducible first | exact HB.out | apply ba | apply bn | apply bd | refine bt ?_ GE239.out | refine bt ?_ GE252.out) | exact HB.out))) : w.heap.size ≤ gb258)); have n8_ := Aside0.mk ((by rw [hg]; exact (below_size (by repeat (first | (with_reducible first | exact HB.out | apply ba | apply bn | apply bd | refine bt ?_ GE239.out | refine bt ?_ GE252.out) | exact HB.out))) : w.heap.size ≤ gb258)); have n9_ := Aside0.mk ((by rw [hg]; exact Nat.ne_of_lt (blk_lt (g := gb239) (o := .cells #[.int .i64 a0_0, .int .i64 a0_1, .slice A0_2 l0_2.length c0_2] 24 (0, 0)) (by (with_reducible repeat (first | refine blk_drewN ?_ _ | refine blk_drew ?_ | refine blk_alloc ?_ _)); exact BK239.out)) : gb239 ≠ gb258)); have n10_ := Aside0.mk ((by rw [hg]; exact Nat.ne_of_gt (blk_lt (g := gb239) (o := .cells #[.int .i64 a0_0, .int .i64 a0_1, .slice A0_2 l0_2.length c0_2] 24 (0, 0)) (by (with_reducible repeat (first | refine blk_drewN ?_ _ | refine blk_drew ?_ | refine blk_alloc ?_ _)); exact BK239.out)) : gb258 ≠ gb239)); have n11_ := Aside0.mk ((by rw [hg]; exact Nat.ne_of_lt (blk_lt (g := gb252) (o := .cells #[.int .i64 t246, .int .i64 t247, .slice Ao23 t248.length co23] 29 (0, 0)) (by (with_reducible repeat (first | refine blk_drewN ?_ _ | refine blk_drew ?_ | refine blk_alloc ?_ _)); exact BK252.out)) : gb252 ≠ gb258)); have n12_ := Aside0.mk ((by rw [hg]; exact Nat.ne_of_gt (blk_lt (g := gb252) (o := .cells #[.int .i64 t246, .int .i64 t247, .slice Ao23 t248.length co23] 29 (0, 0)) (by (with_reducible repeat (first | refine blk_drewN ?_ _ | refine blk_drew ?_ | refine blk_alloc ?_ _)); exact BK252.out)) : gb258 ≠ gb252)); clear HO245; clear HO250; clear HO257; clear BK239; clear BK252; clear HB; have HO245 := n0_; have HO250 := n1_; have HO257 := n2_; have BK239 := n3_; have BK252 := n4_; have HB := n5_; have BK258 := n6_; have GW258 := n7_; have GE258 := n8_; have NB239_258 := n9_; have NB258_239 := n10_; have NB252_258 := n11_; have NB258_252 := n12_; clear n0_ n1_ n2_ n3_ n4_ n5_ n6_ n7_ n8_ n9_ n10_ n11_ n12_; clear hb hbox hg; have hnb27 := NB258_239.out; have hnc27 := NB239_258.out; have hnb28 := NB258_252.out; have hnc28 := NB252_258.out; have hcz29_0 : w26.cell? ⟨gb258, 0, none⟩ = some (.int .i64 0) := cl BK258.out 0 rfl; have hcz29_1 : w26.cell? ⟨gb258, 1, none⟩ = some (.int .i64 0) := cl BK258.out 1 rfl; have hcz29_2 : w26.cell? ⟨gb258, 2, none⟩ = some (.slice none 0 0) := cl BK258.out 2 rfl; have hfz29_0 := fz BK258.out 0; have hfz29_1 := fz BK258.out 1; have hfz29_2 := fz BK258.out 2; obtain ⟨Ao30, co30, eo30⟩ := Kd.R_slice HO257.out; subst eo30) | ((with_reducible refine gate_callee (f := 29) rfl ?_); refine goesL_ (some 33) rfl rfl Try.func29 (by kernel_rfl) rfl #[.agg #[.int .i64 t253, .int .i64 t254, .slice Ao30 t255.length co30], .int .i64 a1] rfl (by (try simp only [List.map_toArray, List.map_cons, List.map_nil]); first | done | rfl | (simp only [List.length_drop, List.length_take]; rfl)) ?_; (with_reducible refine (impl_TableLeave.calls k t253 t254 _ _ t255 a1 t259 t260 t261 t264 _ ?side1 ?side2 A11.out).mono ?_); (case side1 => refine (Kd.R_reads' (e := 40) (base := w.heap.size) (ok := fun k_ => ((True ∧ some k_ ≠ (.slice Ao18 t243.length co18 : Value).ownBlock) ∧ some k_ ≠ (.slice Ao23 t248.length co23 : Value).ownBlock)) (n := t255.length) (c := co30) ?_).2.2; exact (by (with_reducible repeat (first | apply Kd.R_alloc | apply Kd.R_drewN | apply Kd.R_drew)); exact (Kd.R_mono (rF (rF (rF (Kd.R_types HO257.out BK258.out (by decide)) _ _) _ _) _ _) (fun _ h_ => h_.1)))); (case side2 => exact (Kd.R_reads' HO257.out).2.1); rintro e w31 ⟨v262, rfl, ho0, hb⟩; refine ⟨_, rfl, ?_⟩; have n0_ := Aside0.mk (Kd.R_elder' (by (with_reducible repeat (first | apply Kd.R_alloc | apply Kd.R_drewN | apply Kd.R_drew)); exact (Kd.R_mono (rF (rF (rF (Kd.R_types HO245.out BK258.out (by decide)) _ _) _ _) _ _) (fun _ h_ => h_.1))) (Kd.R_base ho0) hb); have n1_ := Aside0.mk (Kd.R_elder' (by (with_reducible repeat (first | apply Kd.R_alloc | apply Kd.R_drewN | apply Kd.R_drew)); exact (Kd.R_mono (rF (rF (rF (Kd.R_types HO250.out BK258.out (by decide)) _ _) _ _) _ _) (fun _ h_ => h_.1))) (Kd.R_base ho0) hb); have n2_ := Aside0.mk (Kd.R_elder' (by (with_reducible repeat (first | apply Kd.R_alloc | apply Kd.R_drewN | apply Kd.R_drew)); exact (Kd.R_mono (rF (rF (rF (Kd.R_types HO257.out BK258.out (by decide)) _ _) _ _) _ _) (fun _ h_ => h_.1))) (Kd.R_base ho0) hb); have n3_ := Aside0.mk (Kd.R_lower (Kd.R_new' (Kd.R_new' (Kd.R_new' ho0 (Kd.R_lt (by (with_reducible repeat (first | apply Kd.R_alloc | apply Kd.R_drewN | apply Kd.R_drew)); exact (Kd.R_mono (rF (rF (rF (Kd.R_types HO245.out BK258.out (by decide)) _ _) _ _) _ _) (fun _ h_ => h_.1))))) (Kd.R_lt (by (with_reducible repeat (first | apply Kd.R_alloc | apply Kd.R_drewN | apply Kd.R_drew)); exact (Kd.R_mono (rF (rF (rF (Kd.R_types HO250.out BK258.out (by decide)) _ _) _ _) _ _) (fun _ h_ => h_.1))))) (Kd.R_lt (by (with_reducible repeat (first | apply Kd.R_alloc | apply Kd.R_drewN | apply Kd.R_drew)); exact (Kd.R_mono (rF (rF (rF (Kd.R_types HO257.out BK258.out (by decide)) _ _) _ _) _ _) (fun _ h_ => h_.1))))) (below_size (by repeat (first | (with_reducible first | exact HB.out | apply ba | apply bn | apply bd | refine bt ?_ GE239.out | refine bt ?_ GE252.out | refine bt ?_ GE258.out) | exact HB.out)))); have n4_ := Aside0.mk (blk_below (g := gb239) (o := .cells #[.int .i64 a0_0, .int .i64 a0_1, .slice A0_2 l0_2.length c0_2] 24 (0, 0)) (by (with_reducible repeat (first | refine blk_drewN ?_ _ | refine blk_drew ?_ | refine blk_alloc ?_ _)); refine blk_far ?_ NB239_258.out _; (with_reducible repeat (first | refine blk_drewN ?_ _ | refine blk_drew ?_ | refine blk_alloc ?_ _)); refine blk_far ?_ NB239_258.out _; (with_reducible repeat (first | refine blk_drewN ?_ _ | refine blk_drew ?_ | refine blk_alloc ?_ _)); refine blk_far ?_ NB239_258.out _; (with_reducible repeat (first | refine blk_drewN ?_ _ | refine blk_drew ?_ | refine blk_alloc ?_ _)); exact BK239.out) hb); have n5_ := Aside0.mk (blk_below (g := gb252) (o := .cells #[.int .i64 t246, .int .i64 t247, .slice Ao23 t248.length co23] 29 (0, 0)) (by (with_reducible repeat (first | refine blk_drewN ?_ _ | refine blk_drew ?_ | refine blk_alloc ?_ _)); refine blk_far ?_ NB252_258.out _; (with_reducible repeat (first | refine blk_drewN ?_ _ | refine blk_drew ?_ | refine blk_alloc ?_ _)); refine blk_far ?_ NB252_258.out _; (with_reducible repeat (first | refine blk_drewN ?_ _ | refine blk_drew ?_ | refine blk_alloc ?_ _)); refine blk_far ?_ NB252_258.out _; (with_reducible repeat (first | refine blk_drewN ?_ _ | refine blk_drew ?_ | refine blk_alloc ?_ _)); exact BK252.out) hb); have n6_ := Aside0.mk (blk_below (g := gb258) (o := .cells #[.int .i64 t253, .int .i64 t254, .slice Ao30 t255.length co30] 29 (0, 0)) (by (with_reducible repeat (first | refine blk_drewN ?_ _ | refine blk_drew ?_ | refine blk_alloc ?_ _)); refine blk_put (cs := #[.int .i64 t253, .int .i64 t254, .slice none 0 0]) ?_ 2 _ rfl; (with_reducible repeat (first | refine blk_drewN ?_ _ | refine blk_drew ?_ | refine blk_alloc ?_ _)); refine blk_put (cs := #[.int .i64 t253, .int .i64 0, .slice none 0 0]) ?_ 1 _ rfl; (with_reducible repeat (first | refine blk_drewN ?_ _ | refine blk_drew ?_ | refine blk_alloc ?_ _)); refine blk_put (cs := #[.int .i64 0, .int .i64 0, .slice none 0 0]) ?_ 0 _ rfl; (with_reducible repeat (first | refine blk_drewN ?_ _ | refine blk_drew ?_ | refine blk_alloc ?_ _)); exact BK258.out) hb); have n7_ := Aside0.mk (below_step (by repeat (first | (with_reducible first | exact HB.out | apply ba | apply bn | apply bd | refine bt ?_ GE239.out | refine bt ?_ GE252.out | refine bt ?_ GE258.out) | exact HB.out)) hb); clear HO245; clear HO250; clear HO257; clear BK239; clear BK252; clear BK258; clear HB; have HO245 := n0_; have HO250 := n1_; have HO257 := n2_; have HO263 := n3_; have BK239 := n4_; have BK252 := n5_; have BK258 := n6_; have HB := n7_; clear n0_ n1_ n2_ n3_ n4_ n5_ n6_ n7_; (try clear hb); (try clear hb2); (try clear hk); (try clear hi); (try clear ho0)) | ((with_reducible refine gate_dst (N := 9) rfl ?_); refine box_event ?hg (N := 9) ?hd (cs := #[.int .i64 0, .int .i64 0, .slice none 0 0]) (t := 29) ?hr ?_; (case hd => rfl); (case hg => rfl); (case hr => first | (go_simp; done) | (go_simp; rfl)); intro gb265 hg w32 hbox hb; have n0_ := Aside0.mk (Kd.R_below (by (with_reducible repeat (first | apply Kd.R_alloc | apply Kd.R_drewN | apply Kd.R_drew)); exact HO245.out) hb); have n1_ := Aside0.mk (Kd.R_below (by (with_reducible repeat (first | apply Kd.R_alloc | apply Kd.R_drewN | apply Kd.R_drew)); exact HO250.out) hb); have n2_ := Aside0.mk (Kd.R_below (by (with_reducible repeat (first | apply Kd.R_alloc | apply Kd.R_drewN | apply Kd.R_drew)); exact HO257.out) hb); have n3_ := Aside0.mk (Kd.R_below (by (with_reducible repeat (first | apply Kd.R_alloc | apply Kd.R_drewN | apply Kd.R_drew)); exact HO263.out) hb); have n4_ := Aside0.mk (blk_below (g := gb239) (o := .cells #[.int .i64 a0_0, .int .i64 a0_1, .slice A0_2 l0_2.length c0_2] 24 (0, 0)) (by (with_reducible repeat (first | refine blk_drewN ?_ _ | refine blk_drew ?_ | refine blk_alloc ?_ _)); exact BK239.out) hb); have n5_ := Aside0.mk (blk_below (g := gb252) (o := .cells #[.int .i64 t246, .int .i64 t247, .slice Ao23 t248.length co23] 29 (0, 0)) (by (with_reducible repeat (first | refine blk_drewN ?_ _ | refine blk_drew ?_ | refine blk_alloc ?_ _)); exact BK252.out) hb); have n6_ := Aside0.mk (blk_below (g := gb258) (o := .cells #[.int .i64 t253, .int .i64 t254, .slice Ao30 t255.length co30] 29 (0, 0)) (by (with_reducible repeat (first | refine blk_drewN ?_ _ | refine blk_drew ?_ | refine blk_alloc ?_ _)); exact BK258.out) hb); have n7_ := Aside0.mk (below_step (by repeat (first | (with_reducible first | exact HB.out | apply ba | apply bn | apply bd | refine bt ?_ GE239.out | refine bt ?_ GE252.out | refine bt ?_ GE258.out) | exact HB.out)) hb); have n8_ := Aside0.mk (hbox); have n9_ := Aside0.mk ((by rw [hg]; exact (below_size (by repeat (first | (with_reducible first | exact HB.out | apply ba | apply bn | apply bd | refine bt ?_ GE239.out | refine bt ?_ GE252.out | refine bt ?_ GE258.out) | exact HB.out))) : w.heap.size ≤ gb265)); have n10_ := Aside0.mk ((by rw [hg]; exact (below_size (by repeat (first | (with_reducible first | exact HB.out | apply ba | apply bn | apply bd | refine bt ?_ GE239.out | refine bt ?_ GE252.out | refine bt ?_ GE258.out) | exact HB.out))) : w.heap.size ≤ gb265)); have n11_ := Aside0.mk ((by rw [hg]; exact Nat.ne_of_lt (blk_lt (g := gb239) (o := .cells #[.int .i64 a0_0, .int .i64 a0_1, .slice A0_2 l0_2.length c0_2] 24 (0, 0)) (by (with_reducible repeat (first | refine blk_drewN ?_ _ | refine blk_drew ?_ | refine blk_alloc ?_ _)); exact BK239.out)) : gb239 ≠ gb265)); have n12_ := Aside0.mk ((by rw [hg]; exact Nat.ne_of_gt (blk_lt (g := gb239) (o := .cells #[.int .i64 a0_0, .int .i64 a0_1, .slice A0_2 l0_2.length c0_2] 24 (0, 0)) (by (with_reducible repeat (first | refine blk_drewN ?_ _ | refine blk_drew ?_ | refine blk_alloc ?_ _)); exact BK239.out)) : gb265 ≠ gb239)); have n13_ := Aside0.mk ((by rw [hg]; exact Nat.ne_of_lt (blk_lt (g := gb252) (o := .cells #[.int .i64 t246, .int .i64 t247, .slice Ao23 t248.length co23] 29 (0, 0)) (by (with_reducible repeat (first | refine blk_drewN ?_ _ | refine blk_drew ?_ | refine blk_alloc ?_ _)); exact BK252.out)) : gb252 ≠ gb265)); have n14_ := Aside0.mk ((by rw [hg]; exact Nat.ne_of_gt (blk_lt (g := gb252) (o := .cells #[.int .i64 t246, .int .i64 t247, .slice Ao23 t248.length co23] 29 (0, 0)) (by (with_reducible repeat (first | refine blk_drewN ?_ _ | refine blk_drew ?_ | refine blk_alloc ?_ _)); exact BK252.out)) : gb265 ≠ gb252)); have n15_ := Aside0.mk ((by rw [hg]; exact Nat.ne_of_lt (blk_lt (g := gb258) (o := .cells #[.int .i64 t253, .int .i64 t254, .slice Ao30 t255.length co30] 29 (0, 0)) (by (with_reducible repeat (first | refine blk_drewN ?_ _ | refine blk_drew ?_ | refine blk_alloc ?_ _)); exact BK258.out)) : gb258 ≠ gb265)); have n16_ := Aside0.mk ((by rw [hg]; exact Nat.ne_of_gt (blk_lt (g := gb258) (o := .cells #[.int .i64 t253, .int .i64 t254, .slice Ao30 t255.length co30] 29 (0, 0)) (by (with_reducible repeat (first | refine blk_drewN ?_ _ | refine blk_drew ?_ | refine blk_alloc ?_ _)); exact BK258.out)) : gb265 ≠ gb258)); clear HO245; clear HO250; clear HO257; clear HO263; clear BK239; clear BK252; clear BK258; clear HB; have HO245 := n0_; have HO250 := n1_; have HO257 := n2_; have HO263 := n3_; have BK239 := n4_; have BK252 := n5_; have BK258 := n6_; have HB := n7_; have BK265 := n8_; have GW265 := n9_; have GE265 := n10_; have NB239_265 := n11_; have NB265_239 := n12_; have NB252_265 := n13_; have NB265_252 := n14_; have NB258_265 := n15_; have NB265_258 := n16_; clear n0_ n1_ n2_ n3_ n4_ n5_ n6_ n7_ n8_ n9_ n10_ n11_ n12_ n13_ n14_ n15_ n16_; clear hb hbox hg; have hnb33 := NB265_239.out; have hnc33 := NB239_265.out; have hnb34 := NB265_252.out; have hnc34 := NB252_265.out; have hnb35 := NB265_258.out; have hnc35 := NB258_265.out; have hcz36_0 : w32.cell? ⟨gb265, 0, none⟩ = some (.int .i64 0) := cl BK265.out 0 rfl; have hcz36_1 : w32.cell? ⟨gb265, 1, none⟩ = some (.int .i64 0) := cl BK265.out 1 rfl; have hcz36_2 : w32.cell? ⟨gb265, 2, none⟩ = some (.slice none 0 0) := cl BK265.out 2 rfl; have hfz36_0 := fz BK265.out 0; have hfz36_1 := fz BK265.out 1; have hfz36_2 := fz BK265.out 2; obtain ⟨Ao37, co37, eo37⟩ := Kd.R_slice HO263.out; subst eo37))
  (try simp only [Act.put, List.setIfInBounds_toArray, List.set_cons_zero, List.set_cons_succ])
  go_cut [44] (fun v44 wc => ∃ (kq : Nat) (x44_11 : Bool), v44 = .bool x44_11 ∧ Aside0 (laws_FnExactTableLeave.j0 kq a1 t251 t264 x44_11 a0_0 a0_1 l0_2 t246 t247 t248 t253 t254 t255 t259 t260 t261 = some r) ∧ Aside0 (kq ≤ k) ∧ Aside0 (Kd.R k40 40 wc w.heap.size (fun k_ => some k_ ≠ ((.slice Ao30 t255.length co30) : Value).ownBlock ∧ some k_ ≠ ((.slice Ao37 t261.length co37) : Value).ownBlock) (.slice Ao23 t248.length co23) t248) ∧ Aside0 (Kd.R k40 40 wc w.heap.size (fun k_ => some k_ ≠ ((.slice Ao23 t248.length co23) : Value).ownBlock ∧ some k_ ≠ ((.slice Ao37 t261.length co37) : Value).ownBlock) (.slice Ao30 t255.length co30) t255) ∧ Aside0 (Kd.R k40 40 wc w.heap.size (fun k_ => some k_ ≠ ((.slice Ao23 t248.length co23) : Value).ownBlock ∧ some k_ ≠ ((.slice Ao30 t255.length co30) : Value).ownBlock) (.slice Ao37 t261.length co37) t261) ∧ Aside0 (wc.heap[gb239]? = some (.cells #[.int .i64 a0_0, .int .i64 a0_1, (.slice A0_2 l0_2.length c0_2)] 24 (0, 0))) ∧ Aside0 (wc.heap[gb252]? = some (.cells #[.int .i64 t246, .int .i64 t247, (.slice Ao23 t248.length co23)] 29 (0, 0))) ∧ Aside0 (wc.heap[gb258]? = some (.cells #[.int .i64 t253, .int .i64 t254, (.slice Ao30 t255.length co30)] 29 (0, 0))) ∧ Aside0 (wc.heap[gb265]? = some (.cells #[.int .i64 t259, .int .i64 t260, (.slice Ao37 t261.length co37)] 29 (0, 0))) ∧ Aside0 (Below w.heap.size w wc))
  case first =>
   have H := HC12.out
   clear HC12
   replace H := Option.bind_eq_some_iff.mp H
   obtain ⟨t266, A380, H⟩ := H
   replace H : (if t266 = true then (laws_FnExactTableLeave.j0 k a1 t251 t264 (t264 != t251) a0_0 a0_1 l0_2 t246 t247 t248 t253 t254 t255 t259 t260 t261) else (laws_FnExactTableLeave.j0 k a1 t251 t264 true a0_0 a0_1 l0_2 t246 t247 t248 t253 t254 t255 t259 t260 t261)) = some r := H
   have A38 := Aside0.mk A380
   clear A380
   by_cases c39 : t266 = true
   ·subst c39
    have H1 : (laws_FnExactTableLeave.j0 k a1 t251 t264 (t264 != t251) a0_0 a0_1 l0_2 t246 t247 t248 t253 t254 t255 t259 t260 t261) = some r := by rw [if_pos rfl] at H; exact H
    clear H
    have H := H1
    clear H1
    have H' := Aside0.mk H
    clear H
    have hnb40 := NB265_239.out
    have hnc40 := NB239_265.out
    have hnb41 := NB265_252.out
    have hnc41 := NB252_265.out
    have hnb42 := NB265_258.out
    have hnc42 := NB258_265.out
    have hcz43_0 : w32.cell? ⟨gb265, 0, none⟩ = some (.int .i64 0) := cl BK265.out 0 rfl
    have hcz43_1 : w32.cell? ⟨gb265, 1, none⟩ = some (.int .i64 0) := cl BK265.out 1 rfl
    have hcz43_2 : w32.cell? ⟨gb265, 2, none⟩ = some (.slice none 0 0) := cl BK265.out 2 rfl
    have hfz43_0 := fz BK265.out 0
    have hfz43_1 := fz BK265.out 1
    have hfz43_2 := fz BK265.out 2
    have hnb44 := NB252_239.out
    have hnc44 := NB239_252.out
    have hnb45 := NB252_258.out
    have hnc45 := NB258_252.out
    have hcz46_0 : w32.cell? ⟨gb252, 0, none⟩ = some (.int .i64 t246) := cl BK252.out 0 rfl
    have hcz46_1 : w32.cell? ⟨gb252, 1, none⟩ = some (.int .i64 t247) := cl BK252.out 1 rfl
    have hcz46_2 : w32.cell? ⟨gb252, 2, none⟩ = some (.slice Ao23 t248.length co23) := cl BK252.out 2 rfl
    have hfz46_0 := fz BK252.out 0
    have hfz46_1 := fz BK252.out 1
    have hfz46_2 := fz BK252.out 2
    go_wp2_with (first | ((with_reducible refine gate_callee (f := 21) rfl ?_); refine goesL_ (some 38) rfl rfl Try.func21 (by kernel_rfl) rfl #[.agg #[.int .i64 t259, .int .i64 t260, .slice Ao37 t261.length co37], .agg #[.int .i64 t246, .int .i64 t247, .slice Ao23 t248.length co23]] rfl (by (try simp only [List.map_toArray, List.map_cons, List.map_nil]); first | done | rfl | (simp only [List.length_drop, List.length_take]; rfl)) ?_; (with_reducible refine (laws_eqTable.calls k t259 t260 _ _ t261 t246 t247 _ _ t248 true _ ?side1 ?side2 ?side3 ?side4 A38.out).mono ?_); (case side1 => refine (Kd.R_reads' (e := 40) (base := w.heap.size) (ok := fun k_ => (((True ∧ some k_ ≠ (.slice Ao18 t243.length co18 : Value).ownBlock) ∧ some k_ ≠ (.slice Ao23 t248.length co23 : Value).ownBlock) ∧ some k_ ≠ (.slice Ao30 t255.length co30 : Value).ownBlock)) (n := t261.length) (c := co37) ?_).2.2; exact (by (with_reducible repeat (first | apply Kd.R_alloc | apply Kd.R_drewN | apply Kd.R_drew)); exact (Kd.R_mono (rF (rF (rF (Kd.R_types HO263.out BK265.out (by decide)) _ _) _ _) _ _) (fun _ h_ => h_.1)))); (case side2 => exact (Kd.R_reads' HO263.out).2.1); (case side3 => refine (Kd.R_reads' (e := 40) (base := w.heap.size) (ok := fun k_ => (((True ∧ some k_ ≠ (.slice Ao18 t243.length co18 : Value).ownBlock) ∧ some k_ ≠ (.slice Ao30 t255.length co30 : Value).ownBlock) ∧ some k_ ≠ (.slice Ao37 t261.length co37 : Value).ownBlock)) (n := t248.length) (c := co23) ?_).2.2; exact (by (with_reducible repeat (first | apply Kd.R_alloc | apply Kd.R_drewN | apply Kd.R_drew)); exact (Kd.R_mono (rF (rF (rF (Kd.R_types HO250.out BK265.out (by decide)) _ _) _ _) _ _) (fun _ h_ => h_.1)))); (case side4 => exact (Kd.R_reads' HO250.out).2.1); rintro e w47 ⟨rfl, hb⟩; refine ⟨_, rfl, ?_⟩; have n0_ := Aside0.mk (Kd.R_below (by (with_reducible repeat (first | apply Kd.R_alloc | apply Kd.R_drewN | apply Kd.R_drew)); exact (Kd.R_mono (rF (rF (rF (Kd.R_types HO245.out BK265.out (by decide)) _ _) _ _) _ _) (fun _ h_ => h_.1))) hb); have n1_ := Aside0.mk (Kd.R_below (by (with_reducible repeat (first | apply Kd.R_alloc | apply Kd.R_drewN | apply Kd.R_drew)); exact (Kd.R_mono (rF (rF (rF (Kd.R_types HO250.out BK265.out (by decide)) _ _) _ _) _ _) (fun _ h_ => h_.1))) hb); have n2_ := Aside0.mk (Kd.R_below (by (with_reducible repeat (first | apply Kd.R_alloc | apply Kd.R_drewN | apply Kd.R_drew)); exact (Kd.R_mono (rF (rF (rF (Kd.R_types HO257.out BK265.out (by decide)) _ _) _ _) _ _) (fun _ h_ => h_.1))) hb); have n3_ := Aside0.mk (Kd.R_below (by (with_reducible repeat (first | apply Kd.R_alloc | apply Kd.R_drewN | apply Kd.R_drew)); exact (Kd.R_mono (rF (rF (rF (Kd.R_types HO263.out BK265.out (by decide)) _ _) _ _) _ _) (fun _ h_ => h_.1))) hb); have n4_ := Aside0.mk (blk_below (g := gb239) (o := .cells #[.int .i64 a0_0, .int .i64 a0_1, .slice A0_2 l0_2.length c0_2] 24 (0, 0)) (by (with_reducible repeat (first | refine blk_drewN ?_ _ | refine blk_drew ?_ | refine blk_alloc ?_ _)); refine blk_far ?_ NB239_265.out _; (with_reducible repeat (first | refine blk_drewN ?_ _ | refine blk_drew ?_ | refine blk_alloc ?_ _)); refine blk_far ?_ NB239_265.out _; (with_reducible repeat (first | refine blk_drewN ?_ _ | refine blk_drew ?_ | refine blk_alloc ?_ _)); refine blk_far ?_ NB239_265.out _; (with_reducible repeat (first | refine blk_drewN ?_ _ | refine blk_drew ?_ | refine blk_alloc ?_ _)); exact BK239.out) hb); have n5_ := Aside0.mk (blk_below (g := gb252) (o := .cells #[.int .i64 t246, .int .i64 t247, .slice Ao23 t248.length co23] 29 (0, 0)) (by (with_reducible repeat (first | refine blk_drewN ?_ _ | refine blk_drew ?_ | refine blk_alloc ?_ _)); refine blk_far ?_ NB252_265.out _; (with_reducible repeat (first | refine blk_drewN ?_ _ | refine blk_drew ?_ | refine blk_alloc ?_ _)); refine blk_far ?_ NB252_265.out _; (with_reducible repeat (first | refine blk_drewN ?_ _ | refine blk_drew ?_ | refine blk_alloc ?_ _)); refine blk_far ?_ NB252_265.out _; (with_reducible repeat (first | refine blk_drewN ?_ _ | refine blk_drew ?_ | refine blk_alloc ?_ _)); exact BK252.out) hb); have n6_ := Aside0.mk (blk_below (g := gb258) (o := .cells #[.int .i64 t253, .int .i64 t254, .slice Ao30 t255.length co30] 29 (0, 0)) (by (with_reducible repeat (first | refine blk_drewN ?_ _ | refine blk_drew ?_ | refine blk_alloc ?_ _)); refine blk_far ?_ NB258_265.out _; (with_reducible repeat (first | refine blk_drewN ?_ _ | refine blk_drew ?_ | refine blk_alloc ?_ _)); refine blk_far ?_ NB258_265.out _; (with_reducible repeat (first | refine blk_drewN ?_ _ | refine blk_drew ?_ | refine blk_alloc ?_ _)); refine blk_far ?_ NB258_265.out _; (with_reducible repeat (first | refine blk_drewN ?_ _ | refine blk_drew ?_ | refine blk_alloc ?_ _)); exact BK258.out) hb); have n7_ := Aside0.mk (blk_below (g := gb265) (o := .cells #[.int .i64 t259, .int .i64 t260, .slice Ao37 t261.length co37] 29 (0, 0)) (by (with_reducible repeat (first | refine blk_drewN ?_ _ | refine blk_drew ?_ | refine blk_alloc ?_ _)); refine blk_put (cs := #[.int .i64 t259, .int .i64 t260, .slice none 0 0]) ?_ 2 _ rfl; (with_reducible repeat (first | refine blk_drewN ?_ _ | refine blk_drew ?_ | refine blk_alloc ?_ _)); refine blk_put (cs := #[.int .i64 t259, .int .i64 0, .slice none 0 0]) ?_ 1 _ rfl; (with_reducible repeat (first | refine blk_drewN ?_ _ | refine blk_drew ?_ | refine blk_alloc ?_ _)); refine blk_put (cs := #[.int .i64 0, .int .i64 0, .slice none 0 0]) ?_ 0 _ rfl; (with_reducible repeat (first | refine blk_drewN ?_ _ | refine blk_drew ?_ | refine blk_alloc ?_ _)); exact BK265.out) hb); have n8_ := Aside0.mk (below_step (by repeat (first | (with_reducible first | exact HB.out | apply ba | apply bn | apply bd | refine bt ?_ GE239.out | refine bt ?_ GE252.out | refine bt ?_ GE258.out | refine bt ?_ GE265.out) | exact HB.out)) hb); clear HO245; clear HO250; clear HO257; clear HO263; clear BK239; clear BK252; clear BK258; clear BK265; clear HB; have HO245 := n0_; have HO250 := n1_; have HO257 := n2_; have HO263 := n3_; have BK239 := n4_; have BK252 := n5_; have BK258 := n6_; have BK265 := n7_; have HB := n8_; clear n0_ n1_ n2_ n3_ n4_ n5_ n6_ n7_ n8_; (try clear hb); (try clear hb2); (try clear hk); (try clear hi)))
    go_meet
    case rel => exact ⟨_, ((t264 != t251)), (by first | rfl | (simp; done) | (simp [*]; done)), H', ⟨by first | omega | exact Nat.le_refl _⟩, ⟨by (with_reducible repeat (first | apply Kd.R_alloc | apply Kd.R_drewN | apply Kd.R_drew)); exact Kd.R_mono HO250.out (fun _ hk => ⟨hk.1.2, hk.2⟩)⟩, ⟨by (with_reducible repeat (first | apply Kd.R_alloc | apply Kd.R_drewN | apply Kd.R_drew)); exact Kd.R_mono HO257.out (fun _ hk => ⟨hk.1.2, hk.2⟩)⟩, ⟨by (with_reducible repeat (first | apply Kd.R_alloc | apply Kd.R_drewN | apply Kd.R_drew)); exact Kd.R_mono HO263.out (fun _ hk => ⟨hk.1.2, hk.2⟩)⟩, ⟨by (with_reducible repeat (first | refine blk_drewN ?_ _ | refine blk_drew ?_ | refine blk_alloc ?_ _)); exact BK239.out⟩, ⟨by (with_reducible repeat (first | refine blk_drewN ?_ _ | refine blk_drew ?_ | refine blk_alloc ?_ _)); exact BK252.out⟩, ⟨by (with_reducible repeat (first | refine blk_drewN ?_ _ | refine blk_drew ?_ | refine blk_alloc ?_ _)); exact BK258.out⟩, ⟨by (with_reducible repeat (first | refine blk_drewN ?_ _ | refine blk_drew ?_ | refine blk_alloc ?_ _)); exact BK265.out⟩, ⟨by repeat (first | (with_reducible first | exact HB.out | apply ba | apply bn | apply bd | refine bt ?_ GE239.out | refine bt ?_ GE252.out | refine bt ?_ GE258.out | refine bt ?_ GE265.out) | exact HB.out)⟩⟩
   ·replace c39 := Bool.eq_false_iff.mpr c39
    subst c39
    have H1 : (laws_FnExactTableLeave.j0 k a1 t251 t264 true a0_0 a0_1 l0_2 t246 t247 t248 t253 t254 t255 t259 t260 t261) = some r := by rw [if_neg (show ¬ (false = true) by decide)] at H; exact H
    clear H
    have H := H1
    clear H1
    have H' := Aside0.mk H
    clear H
    have hnb48 := NB265_239.out
    have hnc48 := NB239_265.out
    have hnb49 := NB265_252.out
    have hnc49 := NB252_265.out
    have hnb50 := NB265_258.out
    have hnc50 := NB258_265.out
    have hcz51_0 : w32.cell? ⟨gb265, 0, none⟩ = some (.int .i64 0) := cl BK265.out 0 rfl
    have hcz51_1 : w32.cell? ⟨gb265, 1, none⟩ = some (.int .i64 0) := cl BK265.out 1 rfl
    have hcz51_2 : w32.cell? ⟨gb265, 2, none⟩ = some (.slice none 0 0) := cl BK265.out 2 rfl
    have hfz51_0 := fz BK265.out 0
    have hfz51_1 := fz BK265.out 1
    have hfz51_2 := fz BK265.out 2
    have hnb52 := NB252_239.out
    have hnc52 := NB239_252.out
    have hnb53 := NB252_258.out
    have hnc53 := NB258_252.out
    have hcz54_0 : w32.cell? ⟨gb252, 0, none⟩ = some (.int .i64 t246) := cl BK252.out 0 rfl
    have hcz54_1 : w32.cell? ⟨gb252, 1, none⟩ = some (.int .i64 t247) := cl BK252.out 1 rfl
    have hcz54_2 : w32.cell? ⟨gb252, 2, none⟩ = some (.slice Ao23 t248.length co23) := cl BK252.out 2 rfl
    have hfz54_0 := fz BK252.out 0
    have hfz54_1 := fz BK252.out 1
    have hfz54_2 := fz BK252.out 2
    go_wp2_with (first | ((with_reducible refine gate_callee (f := 21) rfl ?_); refine goesL_ (some 38) rfl rfl Try.func21 (by kernel_rfl) rfl #[.agg #[.int .i64 t259, .int .i64 t260, .slice Ao37 t261.length co37], .agg #[.int .i64 t246, .int .i64 t247, .slice Ao23 t248.length co23]] rfl (by (try simp only [List.map_toArray, List.map_cons, List.map_nil]); first | done | rfl | (simp only [List.length_drop, List.length_take]; rfl)) ?_; (with_reducible refine (laws_eqTable.calls k t259 t260 _ _ t261 t246 t247 _ _ t248 false _ ?side1 ?side2 ?side3 ?side4 A38.out).mono ?_); (case side1 => refine (Kd.R_reads' (e := 40) (base := w.heap.size) (ok := fun k_ => (((True ∧ some k_ ≠ (.slice Ao18 t243.length co18 : Value).ownBlock) ∧ some k_ ≠ (.slice Ao23 t248.length co23 : Value).ownBlock) ∧ some k_ ≠ (.slice Ao30 t255.length co30 : Value).ownBlock)) (n := t261.length) (c := co37) ?_).2.2; exact (by (with_reducible repeat (first | apply Kd.R_alloc | apply Kd.R_drewN | apply Kd.R_drew)); exact (Kd.R_mono (rF (rF (rF (Kd.R_types HO263.out BK265.out (by decide)) _ _) _ _) _ _) (fun _ h_ => h_.1)))); (case side2 => exact (Kd.R_reads' HO263.out).2.1); (case side3 => refine (Kd.R_reads' (e := 40) (base := w.heap.size) (ok := fun k_ => (((True ∧ some k_ ≠ (.slice Ao18 t243.length co18 : Value).ownBlock) ∧ some k_ ≠ (.slice Ao30 t255.length co30 : Value).ownBlock) ∧ some k_ ≠ (.slice Ao37 t261.length co37 : Value).ownBlock)) (n := t248.length) (c := co23) ?_).2.2; exact (by (with_reducible repeat (first | apply Kd.R_alloc | apply Kd.R_drewN | apply Kd.R_drew)); exact (Kd.R_mono (rF (rF (rF (Kd.R_types HO250.out BK265.out (by decide)) _ _) _ _) _ _) (fun _ h_ => h_.1)))); (case side4 => exact (Kd.R_reads' HO250.out).2.1); rintro e w55 ⟨rfl, hb⟩; refine ⟨_, rfl, ?_⟩; have n0_ := Aside0.mk (Kd.R_below (by (with_reducible repeat (first | apply Kd.R_alloc | apply Kd.R_drewN | apply Kd.R_drew)); exact (Kd.R_mono (rF (rF (rF (Kd.R_types HO245.out BK265.out (by decide)) _ _) _ _) _ _) (fun _ h_ => h_.1))) hb); have n1_ := Aside0.mk (Kd.R_below (by (with_reducible repeat (first | apply Kd.R_alloc | apply Kd.R_drewN | apply Kd.R_drew)); exact (Kd.R_mono (rF (rF (rF (Kd.R_types HO250.out BK265.out (by decide)) _ _) _ _) _ _) (fun _ h_ => h_.1))) hb); have n2_ := Aside0.mk (Kd.R_below (by (with_reducible repeat (first | apply Kd.R_alloc | apply Kd.R_drewN | apply Kd.R_drew)); exact (Kd.R_mono (rF (rF (rF (Kd.R_types HO257.out BK265.out (by decide)) _ _) _ _) _ _) (fun _ h_ => h_.1))) hb); have n3_ := Aside0.mk (Kd.R_below (by (with_reducible repeat (first | apply Kd.R_alloc | apply Kd.R_drewN | apply Kd.R_drew)); exact (Kd.R_mono (rF (rF (rF (Kd.R_types HO263.out BK265.out (by decide)) _ _) _ _) _ _) (fun _ h_ => h_.1))) hb); have n4_ := Aside0.mk (blk_below (g := gb239) (o := .cells #[.int .i64 a0_0, .int .i64 a0_1, .slice A0_2 l0_2.length c0_2] 24 (0, 0)) (by (with_reducible repeat (first | refine blk_drewN ?_ _ | refine blk_drew ?_ | refine blk_alloc ?_ _)); refine blk_far ?_ NB239_265.out _; (with_reducible repeat (first | refine blk_drewN ?_ _ | refine blk_drew ?_ | refine blk_alloc ?_ _)); refine blk_far ?_ NB239_265.out _; (with_reducible repeat (first | refine blk_drewN ?_ _ | refine blk_drew ?_ | refine blk_alloc ?_ _)); refine blk_far ?_ NB239_265.out _; (with_reducible repeat (first | refine blk_drewN ?_ _ | refine blk_drew ?_ | refine blk_alloc ?_ _)); exact BK239.out) hb); have n5_ := Aside0.mk (blk_below (g := gb252) (o := .cells #[.int .i64 t246, .int .i64 t247, .slice Ao23 t248.length co23] 29 (0, 0)) (by (with_reducible repeat (first | refine blk_drewN ?_ _ | refine blk_drew ?_ | refine blk_alloc ?_ _)); refine blk_far ?_ NB252_265.out _; (with_reducible repeat (first | refine blk_drewN ?_ _ | refine blk_drew ?_ | refine blk_alloc ?_ _)); refine blk_far ?_ NB252_265.out _; (with_reducible repeat (first | refine blk_drewN ?_ _ | refine blk_drew ?_ | refine blk_alloc ?_ _)); refine blk_far ?_ NB252_265.out _; (with_reducible repeat (first | refine blk_drewN ?_ _ | refine blk_drew ?_ | refine blk_alloc ?_ _)); exact BK252.out) hb); have n6_ := Aside0.mk (blk_below (g := gb258) (o := .cells #[.int .i64 t253, .int .i64 t254, .slice Ao30 t255.length co30] 29 (0, 0)) (by (with_reducible repeat (first | refine blk_drewN ?_ _ | refine blk_drew ?_ | refine blk_alloc ?_ _)); refine blk_far ?_ NB258_265.out _; (with_reducible repeat (first | refine blk_drewN ?_ _ | refine blk_drew ?_ | refine blk_alloc ?_ _)); refine blk_far ?_ NB258_265.out _; (with_reducible repeat (first | refine blk_drewN ?_ _ | refine blk_drew ?_ | refine blk_alloc ?_ _)); refine blk_far ?_ NB258_265.out _; (with_reducible repeat (first | refine blk_drewN ?_ _ | refine blk_drew ?_ | refine blk_alloc ?_ _)); exact BK258.out) hb); have n7_ := Aside0.mk (blk_below (g := gb265) (o := .cells #[.int .i64 t259, .int .i64 t260, .slice Ao37 t261.length co37] 29 (0, 0)) (by (with_reducible repeat (first | refine blk_drewN ?_ _ | refine blk_drew ?_ | refine blk_alloc ?_ _)); refine blk_put (cs := #[.int .i64 t259, .int .i64 t260, .slice none 0 0]) ?_ 2 _ rfl; (with_reducible repeat (first | refine blk_drewN ?_ _ | refine blk_drew ?_ | refine blk_alloc ?_ _)); refine blk_put (cs := #[.int .i64 t259, .int .i64 0, .slice none 0 0]) ?_ 1 _ rfl; (with_reducible repeat (first | refine blk_drewN ?_ _ | refine blk_drew ?_ | refine blk_alloc ?_ _)); refine blk_put (cs := #[.int .i64 0, .int .i64 0, .slice none 0 0]) ?_ 0 _ rfl; (with_reducible repeat (first | refine blk_drewN ?_ _ | refine blk_drew ?_ | refine blk_alloc ?_ _)); exact BK265.out) hb); have n8_ := Aside0.mk (below_step (by repeat (first | (with_reducible first | exact HB.out | apply ba | apply bn | apply bd | refine bt ?_ GE239.out | refine bt ?_ GE252.out | refine bt ?_ GE258.out | refine bt ?_ GE265.out) | exact HB.out)) hb); clear HO245; clear HO250; clear HO257; clear HO263; clear BK239; clear BK252; clear BK258; clear BK265; clear HB; have HO245 := n0_; have HO250 := n1_; have HO257 := n2_; have HO263 := n3_; have BK239 := n4_; have BK252 := n5_; have BK258 := n6_; have BK265 := n7_; have HB := n8_; clear n0_ n1_ n2_ n3_ n4_ n5_ n6_ n7_ n8_; (try clear hb); (try clear hb2); (try clear hk); (try clear hi)))
    go_meet
    case rel => exact ⟨_, (true), (by first | rfl | (simp; done) | (simp [*]; done)), H', ⟨by first | omega | exact Nat.le_refl _⟩, ⟨by (with_reducible repeat (first | apply Kd.R_alloc | apply Kd.R_drewN | apply Kd.R_drew)); exact Kd.R_mono HO250.out (fun _ hk => ⟨hk.1.2, hk.2⟩)⟩, ⟨by (with_reducible repeat (first | apply Kd.R_alloc | apply Kd.R_drewN | apply Kd.R_drew)); exact Kd.R_mono HO257.out (fun _ hk => ⟨hk.1.2, hk.2⟩)⟩, ⟨by (with_reducible repeat (first | apply Kd.R_alloc | apply Kd.R_drewN | apply Kd.R_drew)); exact Kd.R_mono HO263.out (fun _ hk => ⟨hk.1.2, hk.2⟩)⟩, ⟨by (with_reducible repeat (first | refine blk_drewN ?_ _ | refine blk_drew ?_ | refine blk_alloc ?_ _)); exact BK239.out⟩, ⟨by (with_reducible repeat (first | refine blk_drewN ?_ _ | refine blk_drew ?_ | refine blk_alloc ?_ _)); exact BK252.out⟩, ⟨by (with_reducible repeat (first | refine blk_drewN ?_ _ | refine blk_drew ?_ | refine blk_alloc ?_ _)); exact BK258.out⟩, ⟨by (with_reducible repeat (first | refine blk_drewN ?_ _ | refine blk_drew ?_ | refine blk_alloc ?_ _)); exact BK265.out⟩, ⟨by repeat (first | (with_reducible first | exact HB.out | apply ba | apply bn | apply bd | refine bt ?_ GE239.out | refine bt ?_ GE252.out | refine bt ?_ GE258.out | refine bt ?_ GE265.out) | exact HB.out)⟩⟩
  case rest =>
   clear HC12
   try clear c1
   try clear c2
   try clear p2
   try clear c3
   try clear c4
   try clear c4b0
   try clear c5
   try clear c6
   try clear c17
   try clear c19
   try clear c21
   try clear c27
   try clear c28
   try clear c29
   try clear c33
   try clear c34
   try clear c35
   try clear c39
   try clear c40
   try clear c41
   try clear c42
   try clear c44
   try clear c45
   try clear c48
   try clear c49
   try clear c50
   try clear c52
   try clear c53
   try clear hcz14_0
   try clear hcz14_1
   try clear hcz14_2
   try clear hcz16_0
   try clear hcz16_1
   try clear hcz16_2
   try clear hcz22_0
   try clear hcz22_1
   try clear hcz22_2
   try clear hcz24_0
   try clear hcz24_1
   try clear hcz24_2
   try clear hcz29_0
   try clear hcz29_1
   try clear hcz29_2
   try clear hcz36_0
   try clear hcz36_1
   try clear hcz36_2
   try clear hcz43_0
   try clear hcz43_1
   try clear hcz43_2
   try clear hcz46_0
   try clear hcz46_1
   try clear hcz46_2
   try clear hcz51_0
   try clear hcz51_1
   try clear hcz51_2
   try clear hcz54_0
   try clear hcz54_1
   try clear hcz54_2
   try clear hcz6_0
   try clear hcz6_1
   try clear hcz6_2
   try clear hfz14_0
   try clear hfz14_1
   try clear hfz14_2
   try clear hfz16_0
   try clear hfz16_1
   try clear hfz16_2
   try clear hfz22_0
   try clear hfz22_1
   try clear hfz22_2
   try clear hfz24_0
   try clear hfz24_1
   try clear hfz24_2
   try clear hfz29_0
   try clear hfz29_1
   try clear hfz29_2
   try clear hfz36_0
   try clear hfz36_1
   try clear hfz36_2
   try clear hfz43_0
   try clear hfz43_1
   try clear hfz43_2
   try clear hfz46_0
   try clear hfz46_1
   try clear hfz46_2
   try clear hfz51_0
   try clear hfz51_1
   try clear hfz51_2
   try clear hfz54_0
   try clear hfz54_1
   try clear hfz54_2
   try clear hfz6_0
   try clear hfz6_1
   try clear hfz6_2
   obtain ⟨kq, x44_11, rfl, HA, HJ11, HO_253002, HO_259002, HO_266002, BK239, BK252, BK258, BK265, HB⟩ := hcut
   cases kq with
   | zero => exact absurd HA.out (by simp [laws_FnExactTableLeave.j0])
   | succ kj11 =>
    have H := HA.out
    clear HA
    simp only [laws_FnExactTableLeave.j0] at H
    by_cases c56 : x44_11 = true
    ·subst c56
     have H1 : (some false) = some r := by rw [if_pos rfl] at H; exact H
     clear H
     have H := H1
     clear H1
     exact absurd (Option.some.inj H) (by rw [HTR.out]; decide)
    ·replace c56 := Bool.eq_false_iff.mpr c56
     subst c56
     have H1 : ((laws_toTable.f kj11 a0_0 a0_1 l0_2).bind fun bt267 => ((laws_eqTable.f kj11 t253 t254 t255 bt267.1 bt267.2.1 bt267.2.2).bind fun t272 => (if t272 = true then ((laws_markTable.f kj11 t253 t254 t255 1).bind fun bt273 => (if bt273.1 < 0 then (laws_FnExactTableLeave.j1 kj11 a1 t251 true a0_0 a0_1 l0_2 t246 t247 t248 t259 t260 t261) else ((laws_eqTable.f kj11 t259 t260 t261 t246 t247 t248).bind fun t275 => (if t275 = true then (laws_FnExactTableLeave.j1 kj11 a1 t251 (t264 != t251) a0_0 a0_1 l0_2 t246 t247 t248 t259 t260 t261) else (laws_FnExactTableLeave.j1 kj11 a1 t251 true a0_0 a0_1 l0_2 t246 t247 t248 t259 t260 t261))))) else (some false)))) = some r := by rw [if_neg (show ¬ (false = true) by decide)] at H; exact H
     clear H
     have H := H1
     clear H1
     replace H := Option.bind_eq_some_iff.mp H
     obtain ⟨⟨t267, t268, t269⟩, A570, H⟩ := H
     replace H : ((laws_eqTable.f kj11 t253 t254 t255 t267 t268 t269).bind fun t272 => (if t272 = true then ((laws_markTable.f kj11 t253 t254 t255 1).bind fun bt273 => (if bt273.1 < 0 then (laws_FnExactTableLeave.j1 kj11 a1 t251 true a0_0 a0_1 l0_2 t246 t247 t248 t259 t260 t261) else ((laws_eqTable.f kj11 t259 t260 t261 t246 t247 t248).bind fun t275 => (if t275 = true then (laws_FnExactTableLeave.j1 kj11 a1 t251 (t264 != t251) a0_0 a0_1 l0_2 t246 t247 t248 t259 t260 t261) else (laws_FnExactTableLeave.j1 kj11 a1 t251 true a0_0 a0_1 l0_2 t246 t247 t248 t259 t260 t261))))) else (some false))) = some r := H
     have A57 := Aside0.mk A570
     clear A570
     replace H := Option.bind_eq_some_iff.mp H
     obtain ⟨t272, A580, H⟩ := H
     replace H : (if t272 = true then ((laws_markTable.f kj11 t253 t254 t255 1).bind fun bt273 => (if bt273.1 < 0 then (laws_FnExactTableLeave.j1 kj11 a1 t251 true a0_0 a0_1 l0_2 t246 t247 t248 t259 t260 t261) else ((laws_eqTable.f kj11 t259 t260 t261 t246 t247 t248).bind fun t275 => (if t275 = true then (laws_FnExactTableLeave.j1 kj11 a1 t251 (t264 != t251) a0_0 a0_1 l0_2 t246 t247 t248 t259 t260 t261) else (laws_FnExactTableLeave.j1 kj11 a1 t251 true a0_0 a0_1 l0_2 t246 t247 t248 t259 t260 t261))))) else (some false)) = some r := H
     have A58 := Aside0.mk A580
     clear A580
     by_cases c59 : t272 = true
     ·subst c59
      have H1 : ((laws_markTable.f kj11 t253 t254 t255 1).bind fun bt273 => (if bt273.1 < 0 then (laws_FnExactTableLeave.j1 kj11 a1 t251 true a0_0 a0_1 l0_2 t246 t247 t248 t259 t260 t261) else ((laws_eqTable.f kj11 t259 t260 t261 t246 t247 t248).bind fun t275 => (if t275 = true then (laws_FnExactTableLeave.j1 kj11 a1 t251 (t264 != t251) a0_0 a0_1 l0_2 t246 t247 t248 t259 t260 t261) else (laws_FnExactTableLeave.j1 kj11 a1 t251 true a0_0 a0_1 l0_2 t246 t247 t248 t259 t260 t261))))) = some r := by rw [if_pos rfl] at H; exact H
      clear H
      have H := H1
      clear H1
      replace H := Option.bind_eq_some_iff.mp H
      obtain ⟨⟨t273, t274⟩, A600, H⟩ := H
      replace H : (if t273 < 0 then (laws_FnExactTableLeave.j1 kj11 a1 t251 true a0_0 a0_1 l0_2 t246 t247 t248 t259 t260 t261) else ((laws_eqTable.f kj11 t259 t260 t261 t246 t247 t248).bind fun t275 => (if t275 = true then (laws_FnExactTableLeave.j1 kj11 a1 t251 (t264 != t251) a0_0 a0_1 l0_2 t246 t247 t248 t259 t260 t261) else (laws_FnExactTableLeave.j1 kj11 a1 t251 true a0_0 a0_1 l0_2 t246 t247 t248 t259 t260 t261)))) = some r := H
      have A60 := Aside0.mk A600
      clear A600
      have HC61 := Aside0.mk H
      clear H
      try go_wp2
      have n0_ := Aside0.mk (Kd.R_drew HO_253002.out)
      have n1_ := Aside0.mk (Kd.R_drew HO_259002.out)
      have n2_ := Aside0.mk (Kd.R_drew HO_266002.out)
      have n3_ := Aside0.mk (blk_drew BK239.out)
      have n4_ := Aside0.mk (blk_drew BK252.out)
      have n5_ := Aside0.mk (blk_drew BK258.out)
      have n6_ := Aside0.mk (blk_drew BK265.out)
      have n7_ := Aside0.mk (below_drew1 HB.out)
      clear HO_253002
      clear HO_259002
      clear HO_266002
      clear BK239
      clear BK252
      clear BK258
      clear BK265
      clear HB
      have HO_253002 := n0_
      have HO_259002 := n1_
      have HO_266002 := n2_
      have BK239 := n3_
      have BK252 := n4_
      have BK258 := n5_
      have BK265 := n6_
      have HB := n7_
      clear n0_ n1_ n2_ n3_ n4_ n5_ n6_ n7_
      refine start_ (n := 5) (S := fun w' => w'.cell? ⟨gb258, 0, none⟩ = some (.int .i64 t253) ∧ w'.cell? ⟨gb258, 1, none⟩ = some (.int .i64 t254) ∧ w'.cell? ⟨gb258, 2, none⟩ = some (.slice Ao30 t255.length co30) ∧ w'.cell? ⟨gb239, 0, none⟩ = some (.int .i64 a0_0) ∧ w'.cell? ⟨gb239, 1, none⟩ = some (.int .i64 a0_1) ∧ w'.cell? ⟨gb239, 2, none⟩ = some (.slice A0_2 l0_2.length c0_2)) (ds := []) #[false, false, false, false, false] (by kernel_rfl) rfl rfl ⟨cl BK258.out 0 rfl, cl BK258.out 1 rfl, cl BK258.out 2 rfl, cl BK239.out 0 rfl, cl BK239.out 1 rfl, cl BK239.out 2 rfl⟩ (fun hHeld => ?_)
      generalize wc.drew = w62 at HO_253002 HO_259002 HO_266002 BK239 BK252 BK258 BK265 HB hHeld ⊢
      refine take_ (i := 0) (N := some 45) (v := ?_) (a' := ?_) #[true, false, false, false, false] rfl rfl (by kernel_rfl) (fun _ _ _ h => h) (Or.inl ⟨by rfl, ?_⟩) hHeld ?_ ?_
      rotate_left
      ·rintro w' ⟨s0, s1, s2, s3, s4, s5⟩
       go_simp
       with_reducible rfl
      rotate_left
      ·simp only [Act.put, List.setIfInBounds_toArray, List.set_cons_zero, List.set_cons_succ, i64_w, i32_w]
       rfl
      refine take_ (i := 1) (N := some 46) (v := ?_) (a' := ?_) #[true, true, false, false, false] rfl rfl (by kernel_rfl) (fun _ _ _ h => h) (Or.inl ⟨by rfl, ?_⟩) hHeld ?_ ?_
      rotate_left
      ·rintro w' ⟨s0, s1, s2, s3, s4, s5⟩
       go_simp
       with_reducible rfl
      rotate_left
      ·simp only [Act.put, List.setIfInBounds_toArray, List.set_cons_zero, List.set_cons_succ, i64_w, i32_w]
       rfl
      refine one_ (i := 2) (N := some 47) #[true, true, true, false, false] rfl rfl (by kernel_rfl) (by decide) (fun K hK => ?_)
      refine goes_ Try.func19 (by kernel_rfl) rfl #[.agg #[.int .i64 a0_0, .int .i64 a0_1, .slice A0_2 l0_2.length c0_2]] (by rfl) rfl rfl (by (try simp only [List.map_toArray, List.map_cons, List.map_nil]); first | done | rfl | (simp only [List.length_drop, List.length_take]; rfl)) ?_
      with_reducible refine (laws_toTable.calls kj11 a0_0 a0_1 _ _ l0_2 t267 t268 t269 _ ?side1 ?side2 A57.out).mono ?_
      (case side1 => repeat (first | exact (Kd.C_below HR0_2.out HB.out) | (with_reducible refine Kd.C_alloc ?_ _) | (with_reducible refine Kd.C_drewN ?_ _) | (with_reducible refine Kd.C_drew ?_)))
      (case side2 => exact HC0_2.out)
      rintro e w63 ⟨v270, rfl, ho0, hb⟩
      refine ⟨_, rfl, ?_⟩
      have n0_ := Aside0.mk (Kd.R_elder' (by (with_reducible repeat (first | apply Kd.R_alloc | apply Kd.R_drewN | apply Kd.R_drew)); exact HO_253002.out) (Kd.R_base ho0) hb)
      have n1_ := Aside0.mk (Kd.R_elder' (by (with_reducible repeat (first | apply Kd.R_alloc | apply Kd.R_drewN | apply Kd.R_drew)); exact HO_259002.out) (Kd.R_base ho0) hb)
      have n2_ := Aside0.mk (Kd.R_elder' (by (with_reducible repeat (first | apply Kd.R_alloc | apply Kd.R_drewN | apply Kd.R_drew)); exact HO_266002.out) (Kd.R_base ho0) hb)
      have n3_ := Aside0.mk (Kd.R_lower (Kd.R_new' (Kd.R_new' (Kd.R_new' ho0 (Kd.R_lt (by (with_reducible repeat (first | apply Kd.R_alloc | apply Kd.R_drewN | apply Kd.R_drew)); exact HO_253002.out))) (Kd.R_lt (by (with_reducible repeat (first | apply Kd.R_alloc | apply Kd.R_drewN | apply Kd.R_drew)); exact HO_259002.out))) (Kd.R_lt (by (with_reducible repeat (first | apply Kd.R_alloc | apply Kd.R_drewN | apply Kd.R_drew)); exact HO_266002.out))) (below_size (by repeat (first | (with_reducible first | exact HB.out | apply ba | apply bn | apply bd | refine bt ?_ GE239.out | refine bt ?_ GE252.out | refine bt ?_ GE258.out | refine bt ?_ GE265.out) | exact HB.out))))
      have n4_ := Aside0.mk (blk_below (g := gb239) (o := .cells #[.int .i64 a0_0, .int .i64 a0_1, .slice A0_2 l0_2.length c0_2] 24 (0, 0)) (by (with_reducible repeat (first | refine blk_drewN ?_ _ | refine blk_drew ?_ | refine blk_alloc ?_ _)); exact BK239.out) hb)
      have n5_ := Aside0.mk (blk_below (g := gb252) (o := .cells #[.int .i64 t246, .int .i64 t247, .slice Ao23 t248.length co23] 29 (0, 0)) (by (with_reducible repeat (first | refine blk_drewN ?_ _ | refine blk_drew ?_ | refine blk_alloc ?_ _)); exact BK252.out) hb)
      have n6_ := Aside0.mk (blk_below (g := gb258) (o := .cells #[.int .i64 t253, .int .i64 t254, .slice Ao30 t255.length co30] 29 (0, 0)) (by (with_reducible repeat (first | refine blk_drewN ?_ _ | refine blk_drew ?_ | refine blk_alloc ?_ _)); exact BK258.out) hb)
      have n7_ := Aside0.mk (blk_below (g := gb265) (o := .cells #[.int .i64 t259, .int .i64 t260, .slice Ao37 t261.length co37] 29 (0, 0)) (by (with_reducible repeat (first | refine blk_drewN ?_ _ | refine blk_drew ?_ | refine blk_alloc ?_ _)); exact BK265.out) hb)
      have n8_ := Aside0.mk (below_step (by repeat (first | (with_reducible first | exact HB.out | apply ba | apply bn | apply bd | refine bt ?_ GE239.out | refine bt ?_ GE252.out | refine bt ?_ GE258.out | refine bt ?_ GE265.out) | exact HB.out)) hb)
      clear HO_253002
      clear HO_259002
      clear HO_266002
      clear BK239
      clear BK252
      clear BK258
      clear BK265
      clear HB
      have HO_253002 := n0_
      have HO_259002 := n1_
      have HO_266002 := n2_
      have HO271 := n3_
      have BK239 := n4_
      have BK252 := n5_
      have BK258 := n6_
      have BK265 := n7_
      have HB := n8_
      clear n0_ n1_ n2_ n3_ n4_ n5_ n6_ n7_ n8_
      (try clear hb)
      (try clear hb2)
      (try clear hk)
      (try clear hi)
      (try clear ho0)
      obtain ⟨Ao64, co64, eo64⟩ := Kd.R_slice HO271.out
      (first | subst eo64 | (injection eo64 with f1_ f2_ f3_; have f4_ := f1_.symm; have f5_ := f3_.symm; clear f1_ f2_ f3_; subst f4_; subst f5_))
      refine hK.out _ _ ⟨cl BK258.out 0 rfl, cl BK258.out 1 rfl, cl BK258.out 2 rfl, cl BK239.out 0 rfl, cl BK239.out 1 rfl, cl BK239.out 2 rfl⟩ (fun hHeld => ?_)
      clear hK K
      refine norm_ (a' := ?_) ?_ ?_
      rotate_left
      ·show Act.put _ (some 47) _ = _
       simp only [Act.put, List.setIfInBounds_toArray, List.set_cons_zero, List.set_cons_succ, i64_w, i32_w]
       rfl
      refine one_ (i := 3) (N := some 48) #[true, true, true, true, false] rfl rfl (by kernel_rfl) (by decide) (fun K hK => ?_)
      refine goes_ Try.func21 (by kernel_rfl) rfl #[.agg #[.int .i64 t253, .int .i64 t254, .slice Ao30 t255.length co30], .agg #[.int .i64 t267, .int .i64 t268, .slice Ao64 t269.length co64]] (by rfl) rfl rfl (by (try simp only [List.map_toArray, List.map_cons, List.map_nil]); first | done | rfl | (simp only [List.length_drop, List.length_take]; rfl)) ?_
      with_reducible refine (laws_eqTable.calls kj11 t253 t254 _ _ t255 t267 t268 _ _ t269 true _ ?side1 ?side2 ?side3 ?side4 A58.out).mono ?_
      (case side1 => repeat (first | exact (Kd.R_reads' HO_259002.out).2.2 | (with_reducible refine Kd.C_alloc ?_ _) | (with_reducible refine Kd.C_drewN ?_ _) | (with_reducible refine Kd.C_drew ?_)))
      (case side2 => exact (Kd.R_reads' HO_259002.out).2.1)
      (case side3 => repeat (first | exact (Kd.R_reads' HO271.out).2.2 | (with_reducible refine Kd.C_alloc ?_ _) | (with_reducible refine Kd.C_drewN ?_ _) | (with_reducible refine Kd.C_drew ?_)))
      (case side4 => exact (Kd.R_reads' HO271.out).2.1)
      rintro e w65 ⟨rfl, hb⟩
      refine ⟨_, rfl, ?_⟩
      have n0_ := Aside0.mk (Kd.R_below (by (with_reducible repeat (first | apply Kd.R_alloc | apply Kd.R_drewN | apply Kd.R_drew)); exact HO_253002.out) hb)
      have n1_ := Aside0.mk (Kd.R_below (by (with_reducible repeat (first | apply Kd.R_alloc | apply Kd.R_drewN | apply Kd.R_drew)); exact HO_259002.out) hb)
      have n2_ := Aside0.mk (Kd.R_below (by (with_reducible repeat (first | apply Kd.R_alloc | apply Kd.R_drewN | apply Kd.R_drew)); exact HO_266002.out) hb)
      have n3_ := Aside0.mk (Kd.R_below (by (with_reducible repeat (first | apply Kd.R_alloc | apply Kd.R_drewN | apply Kd.R_drew)); exact HO271.out) hb)
      have n4_ := Aside0.mk (blk_below (g := gb239) (o := .cells #[.int .i64 a0_0, .int .i64 a0_1, .slice A0_2 l0_2.length c0_2] 24 (0, 0)) (by (with_reducible repeat (first | refine blk_drewN ?_ _ | refine blk_drew ?_ | refine blk_alloc ?_ _)); exact BK239.out) hb)
      have n5_ := Aside0.mk (blk_below (g := gb252) (o := .cells #[.int .i64 t246, .int .i64 t247, .slice Ao23 t248.length co23] 29 (0, 0)) (by (with_reducible repeat (first | refine blk_drewN ?_ _ | refine blk_drew ?_ | refine blk_alloc ?_ _)); exact BK252.out) hb)
      have n6_ := Aside0.mk (blk_below (g := gb258) (o := .cells #[.int .i64 t253, .int .i64 t254, .slice Ao30 t255.length co30] 29 (0, 0)) (by (with_reducible repeat (first | refine blk_drewN ?_ _ | refine blk_drew ?_ | refine blk_alloc ?_ _)); exact BK258.out) hb)
      have n7_ := Aside0.mk (blk_below (g := gb265) (o := .cells #[.int .i64 t259, .int .i64 t260, .slice Ao37 t261.length co37] 29 (0, 0)) (by (with_reducible repeat (first | refine blk_drewN ?_ _ | refine blk_drew ?_ | refine blk_alloc ?_ _)); exact BK265.out) hb)
      have n8_ := Aside0.mk (below_step (by repeat (first | (with_reducible first | exact HB.out | apply ba | apply bn | apply bd | refine bt ?_ GE239.out | refine bt ?_ GE252.out | refine bt ?_ GE258.out | refine bt ?_ GE265.out) | exact HB.out)) hb)
      clear HO_253002
      clear HO_259002
      clear HO_266002
      clear HO271
      clear BK239
      clear BK252
      clear BK258
      clear BK265
      clear HB
      have HO_253002 := n0_
      have HO_259002 := n1_
      have HO_266002 := n2_
      have HO271 := n3_
      have BK239 := n4_
      have BK252 := n5_
      have BK258 := n6_
      have BK265 := n7_
      have HB := n8_
      clear n0_ n1_ n2_ n3_ n4_ n5_ n6_ n7_ n8_
      (try clear hb)
      (try clear hb2)
      (try clear hk)
      (try clear hi)
      refine hK.out _ _ ⟨cl BK258.out 0 rfl, cl BK258.out 1 rfl, cl BK258.out 2 rfl, cl BK239.out 0 rfl, cl BK239.out 1 rfl, cl BK239.out 2 rfl⟩ (fun hHeld => ?_)
      clear hK K
      refine norm_ (a' := ?_) ?_ ?_
      rotate_left
      ·show Act.put _ (some 48) _ = _
       simp only [Act.put, List.setIfInBounds_toArray, List.set_cons_zero, List.set_cons_succ, i64_w, i32_w]
       rfl
      refine pure_ (i := 4) (N := some 49) (v := ?_) (a' := ?_) #[true, true, true, true, true] rfl rfl (by kernel_rfl) (fun _ _ _ h => h) (Or.inl ⟨by rfl, ?_⟩) ?_ ?_
      rotate_left
      ·intro w'
       go_simp
       with_reducible rfl
      rotate_left
      ·simp only [Act.put, List.setIfInBounds_toArray, List.set_cons_zero, List.set_cons_succ, i64_w, i32_w]
       rfl
      refine done_ (by kernel_rfl) ?_
      have hnb66 := NB258_239.out
      have hnc66 := NB239_258.out
      have hnb67 := NB258_252.out
      have hnc67 := NB252_258.out
      have hnb68 := NB258_265.out
      have hnc68 := NB265_258.out
      have hcz69_0 : w65.cell? ⟨gb258, 0, none⟩ = some (.int .i64 t253) := cl BK258.out 0 rfl
      have hcz69_1 : w65.cell? ⟨gb258, 1, none⟩ = some (.int .i64 t254) := cl BK258.out 1 rfl
      have hcz69_2 : w65.cell? ⟨gb258, 2, none⟩ = some (.slice Ao30 t255.length co30) := cl BK258.out 2 rfl
      have hfz69_0 := fz BK258.out 0
      have hfz69_1 := fz BK258.out 1
      have hfz69_2 := fz BK258.out 2
      go_upto_region 14 with (first | ((with_reducible refine gate_callee (f := 26) rfl ?_); refine goesL_ (some 52) rfl rfl Try.func26 (by kernel_rfl) rfl #[.agg #[.int .i64 t253, .int .i64 t254, .slice Ao30 t255.length co30], .int .i64 1] rfl (by (try simp only [List.map_toArray, List.map_cons, List.map_nil]); first | done | rfl | (simp only [List.length_drop, List.length_take]; rfl)) ?_; (with_reducible refine (laws_markTable.calls kj11 t253 t254 (fun k_ => some k_ = (.slice Ao30 t255.length co30 : Value).ownBlock) (.slice Ao30 t255.length co30) t255 1 t273 t274 w _ ?side1 ?side2 A60.out).mono ?_); (case side1 => repeat (first | (with_reducible first | exact HB.out | apply ba | apply bn | apply bd | refine bt ?_ GE239.out | refine bt ?_ GE252.out | refine bt ?_ GE258.out | refine bt ?_ GE265.out) | exact HB.out)); (case side2 => exact Kd.R_tight rfl HO_259002.out); rintro e w70 ⟨rfl, hy0, hb, hkp⟩; refine ⟨_, rfl, ?_⟩; have n0_ := Aside0.mk (Kd.R_mono (ok' := fun k_ => some k_ ≠ (.slice Ao30 t255.length co30 : Value).ownBlock ∧ some k_ ≠ (.slice Ao37 t261.length co37 : Value).ownBlock ∧ some k_ ≠ (.slice Ao64 t269.length co64 : Value).ownBlock) (Kd.R_keptB (HO_253002.out) hkp (fun k_ hk_ hs_ => (hk_.1.1) hs_)) (fun k_ hk_ => ⟨hk_.1.1.1, hk_.1.1.2, hk_.1.2⟩)); have n1_ := Aside0.mk (Kd.R_reok rfl hy0 (fun k_ e_ => HO_259002.out.1 k_ e_)); have n2_ := Aside0.mk (Kd.R_mono (ok' := fun k_ => some k_ ≠ (.slice Ao23 t248.length co23 : Value).ownBlock ∧ some k_ ≠ (.slice Ao30 t255.length co30 : Value).ownBlock ∧ some k_ ≠ (.slice Ao64 t269.length co64 : Value).ownBlock) (Kd.R_keptB (HO_266002.out) hkp (fun k_ hk_ hs_ => (hk_.1.2) hs_)) (fun k_ hk_ => ⟨hk_.1.1.1, hk_.1.1.2, hk_.1.2⟩)); have n3_ := Aside0.mk (blk_kept (by (with_reducible repeat (first | refine blk_drewN ?_ _ | refine blk_drew ?_ | refine blk_alloc ?_ _)); exact BK239.out) hkp (fun hs_ => (fun e_ => (Kd.R_ne HO_259002.out BK239.out (by decide)) e_) hs_)); have n4_ := Aside0.mk (blk_kept (by (with_reducible repeat (first | refine blk_drewN ?_ _ | refine blk_drew ?_ | refine blk_alloc ?_ _)); exact BK252.out) hkp (fun hs_ => (fun e_ => (Kd.R_ne HO_259002.out BK252.out (by decide)) e_) hs_)); have n5_ := Aside0.mk (blk_kept (by (with_reducible repeat (first | refine blk_drewN ?_ _ | refine blk_drew ?_ | refine blk_alloc ?_ _)); exact BK258.out) hkp (fun hs_ => (fun e_ => (Kd.R_ne HO_259002.out BK258.out (by decide)) e_) hs_)); have n6_ := Aside0.mk (blk_kept (by (with_reducible repeat (first | refine blk_drewN ?_ _ | refine blk_drew ?_ | refine blk_alloc ?_ _)); exact BK265.out) hkp (fun hs_ => (fun e_ => (Kd.R_ne HO_259002.out BK265.out (by decide)) e_) hs_)); have n7_ := Aside0.mk (Kd.R_mono (ok' := fun k_ => some k_ ≠ (.slice Ao23 t248.length co23 : Value).ownBlock ∧ some k_ ≠ (.slice Ao30 t255.length co30 : Value).ownBlock ∧ some k_ ≠ (.slice Ao37 t261.length co37 : Value).ownBlock) (Kd.R_keptB (HO271.out) hkp (fun k_ hk_ hs_ => (hk_.1.2) hs_)) (fun k_ hk_ => ⟨hk_.1.1.1.2, hk_.1.1.2, hk_.1.2⟩)); have n8_ := Aside0.mk (hb); clear HO_253002; clear HO_259002; clear HO_266002; clear BK239; clear BK252; clear BK258; clear BK265; clear HO271; clear HB; have HO_253002 := n0_; have HO_259002 := n1_; have HO_266002 := n2_; have BK239 := n3_; have BK252 := n4_; have BK258 := n5_; have BK265 := n6_; have HO271 := n7_; have HB := n8_; clear n0_ n1_ n2_ n3_ n4_ n5_ n6_ n7_ n8_; (try clear hb); (try clear hkp); (try clear hy0)))
      (try simp only [Act.put, List.setIfInBounds_toArray, List.set_cons_zero, List.set_cons_succ])
      go_cut [65] (fun v65 wc => ∃ (kq : Nat) (x65_60 : Bool), v65 = .bool x65_60 ∧ Aside0 (laws_FnExactTableLeave.j1 kq a1 t251 x65_60 a0_0 a0_1 l0_2 t246 t247 t248 t259 t260 t261 = some r) ∧ Aside0 (kq ≤ kj11) ∧ Aside0 (Kd.R k40 40 wc w.heap.size (fun k_ => some k_ ≠ ((.slice Ao30 t255.length co30) : Value).ownBlock ∧ some k_ ≠ ((.slice Ao37 t261.length co37) : Value).ownBlock) (.slice Ao23 t248.length co23) t248) ∧ Aside0 (Kd.R k40 40 wc w.heap.size (fun k_ => some k_ ≠ ((.slice Ao23 t248.length co23) : Value).ownBlock ∧ some k_ ≠ ((.slice Ao37 t261.length co37) : Value).ownBlock) (.slice Ao30 t255.length co30) t274) ∧ Aside0 (Kd.R k40 40 wc w.heap.size (fun k_ => some k_ ≠ ((.slice Ao23 t248.length co23) : Value).ownBlock ∧ some k_ ≠ ((.slice Ao30 t255.length co30) : Value).ownBlock) (.slice Ao37 t261.length co37) t261) ∧ Aside0 (wc.heap[gb239]? = some (.cells #[.int .i64 a0_0, .int .i64 a0_1, (.slice A0_2 l0_2.length c0_2)] 24 (0, 0))) ∧ Aside0 (wc.heap[gb252]? = some (.cells #[.int .i64 t246, .int .i64 t247, (.slice Ao23 t248.length co23)] 29 (0, 0))) ∧ Aside0 (wc.heap[gb258]? = some (.cells #[.int .i64 t253, .int .i64 t254, (.slice Ao30 t255.length co30)] 29 (0, 0))) ∧ Aside0 (wc.heap[gb265]? = some (.cells #[.int .i64 t259, .int .i64 t260, (.slice Ao37 t261.length co37)] 29 (0, 0))) ∧ Aside0 (Below w.heap.size w wc))
      case first =>
       have H := HC61.out
       clear HC61
       by_cases c71 : t273 < 0
       ·rw [if_pos c71] at H
        have c71b0 : decide (t273 < 0) = true := decide_eq_true c71
        clear c71
        (first | rw [c71b0] | (simp only [i64_w, i32_w]; rw [c71b0]) | skip)
        have H' := Aside0.mk H
        clear H
        go_wp2
        go_meet
        case rel => exact ⟨_, (true), (by first | rfl | (simp; done) | (simp [*]; done)), H', ⟨by have := HJ11.out; first | omega | exact Nat.le_refl _⟩, ⟨by (with_reducible repeat (first | apply Kd.R_alloc | apply Kd.R_drewN | apply Kd.R_drew)); exact Kd.R_mono HO_253002.out (fun _ hk => ⟨hk.1, hk.2.1⟩)⟩, ⟨by (with_reducible repeat (first | apply Kd.R_alloc | apply Kd.R_drewN | apply Kd.R_drew)); exact Kd.R_mono HO_259002.out (fun _ hk => ⟨hk.1.1, hk.1.2⟩)⟩, ⟨by (with_reducible repeat (first | apply Kd.R_alloc | apply Kd.R_drewN | apply Kd.R_drew)); exact Kd.R_mono HO_266002.out (fun _ hk => ⟨hk.1, hk.2.1⟩)⟩, ⟨by (with_reducible repeat (first | refine blk_drewN ?_ _ | refine blk_drew ?_ | refine blk_alloc ?_ _)); exact BK239.out⟩, ⟨by (with_reducible repeat (first | refine blk_drewN ?_ _ | refine blk_drew ?_ | refine blk_alloc ?_ _)); exact BK252.out⟩, ⟨by (with_reducible repeat (first | refine blk_drewN ?_ _ | refine blk_drew ?_ | refine blk_alloc ?_ _)); exact BK258.out⟩, ⟨by (with_reducible repeat (first | refine blk_drewN ?_ _ | refine blk_drew ?_ | refine blk_alloc ?_ _)); exact BK265.out⟩, ⟨by repeat (first | (with_reducible first | exact HB.out | apply ba | apply bn | apply bd | refine bt ?_ GE239.out | refine bt ?_ GE252.out | refine bt ?_ GE258.out | refine bt ?_ GE265.out) | exact HB.out)⟩⟩
       ·rw [if_neg c71] at H
        have c71b0 : decide (t273 < 0) = false := decide_eq_false c71
        clear c71
        (first | rw [c71b0] | (simp only [i64_w, i32_w]; rw [c71b0]) | skip)
        replace H := Option.bind_eq_some_iff.mp H
        obtain ⟨t275, A720, H⟩ := H
        replace H : (if t275 = true then (laws_FnExactTableLeave.j1 kj11 a1 t251 (t264 != t251) a0_0 a0_1 l0_2 t246 t247 t248 t259 t260 t261) else (laws_FnExactTableLeave.j1 kj11 a1 t251 true a0_0 a0_1 l0_2 t246 t247 t248 t259 t260 t261)) = some r := H
        have A72 := Aside0.mk A720
        clear A720
        by_cases c73 : t275 = true
        ·subst c73
         have H1 : (laws_FnExactTableLeave.j1 kj11 a1 t251 (t264 != t251) a0_0 a0_1 l0_2 t246 t247 t248 t259 t260 t261) = some r := by rw [if_pos rfl] at H; exact H
         clear H
         have H := H1
         clear H1
         have H' := Aside0.mk H
         clear H
         have hnb74 := NB265_239.out
         have hnc74 := NB239_265.out
         have hnb75 := NB265_252.out
         have hnc75 := NB252_265.out
         have hnb76 := NB265_258.out
         have hnc76 := NB258_265.out
         have hcz77_0 : w70.cell? ⟨gb265, 0, none⟩ = some (.int .i64 t259) := cl BK265.out 0 rfl
         have hcz77_1 : w70.cell? ⟨gb265, 1, none⟩ = some (.int .i64 t260) := cl BK265.out 1 rfl
         have hcz77_2 : w70.cell? ⟨gb265, 2, none⟩ = some (.slice Ao37 t261.length co37) := cl BK265.out 2 rfl
         have hfz77_0 := fz BK265.out 0
         have hfz77_1 := fz BK265.out 1
         have hfz77_2 := fz BK265.out 2
         have hnb78 := NB252_239.out
         have hnc78 := NB239_252.out
         have hnb79 := NB252_258.out
         have hnc79 := NB258_252.out
         have hcz80_0 : w70.cell? ⟨gb252, 0, none⟩ = some (.int .i64 t246) := cl BK252.out 0 rfl
         have hcz80_1 : w70.cell? ⟨gb252, 1, none⟩ = some (.int .i64 t247) := cl BK252.out 1 rfl
         have hcz80_2 : w70.cell? ⟨gb252, 2, none⟩ = some (.slice Ao23 t248.length co23) := cl BK252.out 2 rfl
         have hfz80_0 := fz BK252.out 0
         have hfz80_1 := fz BK252.out 1
         have hfz80_2 := fz BK252.out 2
         go_wp2_with (first | (go_at_call 21; (with_reducible refine (laws_eqTable.calls kj11 t259 t260 _ _ t261 t246 t247 _ _ t248 true _ ?side1 ?side2 ?side3 ?side4 A72.out).mono ?_); (case side1 => repeat (first | exact (Kd.R_reads' HO_266002.out).2.2 | (with_reducible refine Kd.C_alloc ?_ _) | (with_reducible refine Kd.C_drewN ?_ _) | (with_reducible refine Kd.C_drew ?_))); (case side2 => exact (Kd.R_reads' HO_266002.out).2.1); (case side3 => repeat (first | exact (Kd.R_reads' HO_253002.out).2.2 | (with_reducible refine Kd.C_alloc ?_ _) | (with_reducible refine Kd.C_drewN ?_ _) | (with_reducible refine Kd.C_drew ?_))); (case side4 => exact (Kd.R_reads' HO_253002.out).2.1); rintro e w81 ⟨rfl, hb⟩; have n0_ := Aside0.mk (Kd.R_below (by (with_reducible repeat (first | apply Kd.R_alloc | apply Kd.R_drewN | apply Kd.R_drew)); exact HO_253002.out) hb); have n1_ := Aside0.mk (Kd.R_below (by (with_reducible repeat (first | apply Kd.R_alloc | apply Kd.R_drewN | apply Kd.R_drew)); exact HO_259002.out) hb); have n2_ := Aside0.mk (Kd.R_below (by (with_reducible repeat (first | apply Kd.R_alloc | apply Kd.R_drewN | apply Kd.R_drew)); exact HO_266002.out) hb); have n3_ := Aside0.mk (Kd.R_below (by (with_reducible repeat (first | apply Kd.R_alloc | apply Kd.R_drewN | apply Kd.R_drew)); exact HO271.out) hb); have n4_ := Aside0.mk (blk_below (g := gb239) (o := .cells #[.int .i64 a0_0, .int .i64 a0_1, .slice A0_2 l0_2.length c0_2] 24 (0, 0)) (by (with_reducible repeat (first | refine blk_drewN ?_ _ | refine blk_drew ?_ | refine blk_alloc ?_ _)); exact BK239.out) hb); have n5_ := Aside0.mk (blk_below (g := gb252) (o := .cells #[.int .i64 t246, .int .i64 t247, .slice Ao23 t248.length co23] 29 (0, 0)) (by (with_reducible repeat (first | refine blk_drewN ?_ _ | refine blk_drew ?_ | refine blk_alloc ?_ _)); exact BK252.out) hb); have n6_ := Aside0.mk (blk_below (g := gb258) (o := .cells #[.int .i64 t253, .int .i64 t254, .slice Ao30 t255.length co30] 29 (0, 0)) (by (with_reducible repeat (first | refine blk_drewN ?_ _ | refine blk_drew ?_ | refine blk_alloc ?_ _)); exact BK258.out) hb); have n7_ := Aside0.mk (blk_below (g := gb265) (o := .cells #[.int .i64 t259, .int .i64 t260, .slice Ao37 t261.length co37] 29 (0, 0)) (by (with_reducible repeat (first | refine blk_drewN ?_ _ | refine blk_drew ?_ | refine blk_alloc ?_ _)); exact BK265.out) hb); have n8_ := Aside0.mk (below_step (by repeat (first | (with_reducible first | exact HB.out | apply ba | apply bn | apply bd | refine bt ?_ GE239.out | refine bt ?_ GE252.out | refine bt ?_ GE258.out | refine bt ?_ GE265.out) | exact HB.out)) hb); clear HO_253002; clear HO_259002; clear HO_266002; clear HO271; clear BK239; clear BK252; clear BK258; clear BK265; clear HB; have HO_253002 := n0_; have HO_259002 := n1_; have HO_266002 := n2_; have HO271 := n3_; have BK239 := n4_; have BK252 := n5_; have BK258 := n6_; have BK265 := n7_; have HB := n8_; clear n0_ n1_ n2_ n3_ n4_ n5_ n6_ n7_ n8_; (try clear hb); (try clear hb2); (try clear hk); (try clear hi)))
         go_meet
         case rel => exact ⟨_, ((t264 != t251)), (by first | rfl | (simp; done) | (simp [*]; done)), H', ⟨by have := HJ11.out; first | omega | exact Nat.le_refl _⟩, ⟨by (with_reducible repeat (first | apply Kd.R_alloc | apply Kd.R_drewN | apply Kd.R_drew)); exact Kd.R_mono HO_253002.out (fun _ hk => ⟨hk.1, hk.2.1⟩)⟩, ⟨by (with_reducible repeat (first | apply Kd.R_alloc | apply Kd.R_drewN | apply Kd.R_drew)); exact Kd.R_mono HO_259002.out (fun _ hk => ⟨hk.1.1, hk.1.2⟩)⟩, ⟨by (with_reducible repeat (first | apply Kd.R_alloc | apply Kd.R_drewN | apply Kd.R_drew)); exact Kd.R_mono HO_266002.out (fun _ hk => ⟨hk.1, hk.2.1⟩)⟩, ⟨by (with_reducible repeat (first | refine blk_drewN ?_ _ | refine blk_drew ?_ | refine blk_alloc ?_ _)); exact BK239.out⟩, ⟨by (with_reducible repeat (first | refine blk_drewN ?_ _ | refine blk_drew ?_ | refine blk_alloc ?_ _)); exact BK252.out⟩, ⟨by (with_reducible repeat (first | refine blk_drewN ?_ _ | refine blk_drew ?_ | refine blk_alloc ?_ _)); exact BK258.out⟩, ⟨by (with_reducible repeat (first | refine blk_drewN ?_ _ | refine blk_drew ?_ | refine blk_alloc ?_ _)); exact BK265.out⟩, ⟨by repeat (first | (with_reducible first | exact HB.out | apply ba | apply bn | apply bd | refine bt ?_ GE239.out | refine bt ?_ GE252.out | refine bt ?_ GE258.out | refine bt ?_ GE265.out) | exact HB.out)⟩⟩
        ·replace c73 := Bool.eq_false_iff.mpr c73
         subst c73
         have H1 : (laws_FnExactTableLeave.j1 kj11 a1 t251 true a0_0 a0_1 l0_2 t246 t247 t248 t259 t260 t261) = some r := by rw [if_neg (show ¬ (false = true) by decide)] at H; exact H
         clear H
         have H := H1
         clear H1
         have H' := Aside0.mk H
         clear H
         have hnb82 := NB265_239.out
         have hnc82 := NB239_265.out
         have hnb83 := NB265_252.out
         have hnc83 := NB252_265.out
         have hnb84 := NB265_258.out
         have hnc84 := NB258_265.out
         have hcz85_0 : w70.cell? ⟨gb265, 0, none⟩ = some (.int .i64 t259) := cl BK265.out 0 rfl
         have hcz85_1 : w70.cell? ⟨gb265, 1, none⟩ = some (.int .i64 t260) := cl BK265.out 1 rfl
         have hcz85_2 : w70.cell? ⟨gb265, 2, none⟩ = some (.slice Ao37 t261.length co37) := cl BK265.out 2 rfl
         have hfz85_0 := fz BK265.out 0
         have hfz85_1 := fz BK265.out 1
         have hfz85_2 := fz BK265.out 2
         have hnb86 := NB252_239.out
         have hnc86 := NB239_252.out
         have hnb87 := NB252_258.out
         have hnc87 := NB258_252.out
         have hcz88_0 : w70.cell? ⟨gb252, 0, none⟩ = some (.int .i64 t246) := cl BK252.out 0 rfl
         have hcz88_1 : w70.cell? ⟨gb252, 1, none⟩ = some (.int .i64 t247) := cl BK252.out 1 rfl
         have hcz88_2 : w70.cell? ⟨gb252, 2, none⟩ = some (.slice Ao23 t248.length co23) := cl BK252.out 2 rfl
         have hfz88_0 := fz BK252.out 0
         have hfz88_1 := fz BK252.out 1
         have hfz88_2 := fz BK252.out 2
         go_wp2_with (first | (go_at_call 21; (with_reducible refine (laws_eqTable.calls kj11 t259 t260 _ _ t261 t246 t247 _ _ t248 false _ ?side1 ?side2 ?side3 ?side4 A72.out).mono ?_); (case side1 => repeat (first | exact (Kd.R_reads' HO_266002.out).2.2 | (with_reducible refine Kd.C_alloc ?_ _) | (with_reducible refine Kd.C_drewN ?_ _) | (with_reducible refine Kd.C_drew ?_))); (case side2 => exact (Kd.R_reads' HO_266002.out).2.1); (case side3 => repeat (first | exact (Kd.R_reads' HO_253002.out).2.2 | (with_reducible refine Kd.C_alloc ?_ _) | (with_reducible refine Kd.C_drewN ?_ _) | (with_reducible refine Kd.C_drew ?_))); (case side4 => exact (Kd.R_reads' HO_253002.out).2.1); rintro e w89 ⟨rfl, hb⟩; have n0_ := Aside0.mk (Kd.R_below (by (with_reducible repeat (first | apply Kd.R_alloc | apply Kd.R_drewN | apply Kd.R_drew)); exact HO_253002.out) hb); have n1_ := Aside0.mk (Kd.R_below (by (with_reducible repeat (first | apply Kd.R_alloc | apply Kd.R_drewN | apply Kd.R_drew)); exact HO_259002.out) hb); have n2_ := Aside0.mk (Kd.R_below (by (with_reducible repeat (first | apply Kd.R_alloc | apply Kd.R_drewN | apply Kd.R_drew)); exact HO_266002.out) hb); have n3_ := Aside0.mk (Kd.R_below (by (with_reducible repeat (first | apply Kd.R_alloc | apply Kd.R_drewN | apply Kd.R_drew)); exact HO271.out) hb); have n4_ := Aside0.mk (blk_below (g := gb239) (o := .cells #[.int .i64 a0_0, .int .i64 a0_1, .slice A0_2 l0_2.length c0_2] 24 (0, 0)) (by (with_reducible repeat (first | refine blk_drewN ?_ _ | refine blk_drew ?_ | refine blk_alloc ?_ _)); exact BK239.out) hb); have n5_ := Aside0.mk (blk_below (g := gb252) (o := .cells #[.int .i64 t246, .int .i64 t247, .slice Ao23 t248.length co23] 29 (0, 0)) (by (with_reducible repeat (first | refine blk_drewN ?_ _ | refine blk_drew ?_ | refine blk_alloc ?_ _)); exact BK252.out) hb); have n6_ := Aside0.mk (blk_below (g := gb258) (o := .cells #[.int .i64 t253, .int .i64 t254, .slice Ao30 t255.length co30] 29 (0, 0)) (by (with_reducible repeat (first | refine blk_drewN ?_ _ | refine blk_drew ?_ | refine blk_alloc ?_ _)); exact BK258.out) hb); have n7_ := Aside0.mk (blk_below (g := gb265) (o := .cells #[.int .i64 t259, .int .i64 t260, .slice Ao37 t261.length co37] 29 (0, 0)) (by (with_reducible repeat (first | refine blk_drewN ?_ _ | refine blk_drew ?_ | refine blk_alloc ?_ _)); exact BK265.out) hb); have n8_ := Aside0.mk (below_step (by repeat (first | (with_reducible first | exact HB.out | apply ba | apply bn | apply bd | refine bt ?_ GE239.out | refine bt ?_ GE252.out | refine bt ?_ GE258.out | refine bt ?_ GE265.out) | exact HB.out)) hb); clear HO_253002; clear HO_259002; clear HO_266002; clear HO271; clear BK239; clear BK252; clear BK258; clear BK265; clear HB; have HO_253002 := n0_; have HO_259002 := n1_; have HO_266002 := n2_; have HO271 := n3_; have BK239 := n4_; have BK252 := n5_; have BK258 := n6_; have BK265 := n7_; have HB := n8_; clear n0_ n1_ n2_ n3_ n4_ n5_ n6_ n7_ n8_; (try clear hb); (try clear hb2); (try clear hk); (try clear hi)))
         go_meet
         case rel => exact ⟨_, (true), (by first | rfl | (simp; done) | (simp [*]; done)), H', ⟨by have := HJ11.out; first | omega | exact Nat.le_refl _⟩, ⟨by (with_reducible repeat (first | apply Kd.R_alloc | apply Kd.R_drewN | apply Kd.R_drew)); exact Kd.R_mono HO_253002.out (fun _ hk => ⟨hk.1, hk.2.1⟩)⟩, ⟨by (with_reducible repeat (first | apply Kd.R_alloc | apply Kd.R_drewN | apply Kd.R_drew)); exact Kd.R_mono HO_259002.out (fun _ hk => ⟨hk.1.1, hk.1.2⟩)⟩, ⟨by (with_reducible repeat (first | apply Kd.R_alloc | apply Kd.R_drewN | apply Kd.R_drew)); exact Kd.R_mono HO_266002.out (fun _ hk => ⟨hk.1, hk.2.1⟩)⟩, ⟨by (with_reducible repeat (first | refine blk_drewN ?_ _ | refine blk_drew ?_ | refine blk_alloc ?_ _)); exact BK239.out⟩, ⟨by (with_reducible repeat (first | refine blk_drewN ?_ _ | refine blk_drew ?_ | refine blk_alloc ?_ _)); exact BK252.out⟩, ⟨by (with_reducible repeat (first | refine blk_drewN ?_ _ | refine blk_drew ?_ | refine blk_alloc ?_ _)); exact BK258.out⟩, ⟨by (with_reducible repeat (first | refine blk_drewN ?_ _ | refine blk_drew ?_ | refine blk_alloc ?_ _)); exact BK265.out⟩, ⟨by repeat (first | (with_reducible first | exact HB.out | apply ba | apply bn | apply bd | refine bt ?_ GE239.out | refine bt ?_ GE252.out | refine bt ?_ GE258.out | refine bt ?_ GE265.out) | exact HB.out)⟩⟩
      case rest =>
       clear HC61
       try clear c1
       try clear c2
       try clear p2
       try clear c3
       try clear c4
       try clear c4b0
       try clear c5
       try clear c6
       try clear c7
       try clear c8
       try clear c17
       try clear c19
       try clear c21
       try clear c26
       try clear c27
       try clear c28
       try clear c29
       try clear c33
       try clear c34
       try clear c35
       try clear c39
       try clear c40
       try clear c41
       try clear c42
       try clear c44
       try clear c45
       try clear c48
       try clear c49
       try clear c50
       try clear c52
       try clear c53
       try clear c56
       try clear c59
       try clear c66
       try clear c67
       try clear c68
       try clear c71
       try clear c71b0
       try clear c73
       try clear c74
       try clear c75
       try clear c76
       try clear c78
       try clear c79
       try clear c82
       try clear c83
       try clear c84
       try clear c86
       try clear c87
       try clear hcz14_0
       try clear hcz14_1
       try clear hcz14_2
       try clear hcz16_0
       try clear hcz16_1
       try clear hcz16_2
       try clear hcz22_0
       try clear hcz22_1
       try clear hcz22_2
       try clear hcz24_0
       try clear hcz24_1
       try clear hcz24_2
       try clear hcz29_0
       try clear hcz29_1
       try clear hcz29_2
       try clear hcz36_0
       try clear hcz36_1
       try clear hcz36_2
       try clear hcz43_0
       try clear hcz43_1
       try clear hcz43_2
       try clear hcz46_0
       try clear hcz46_1
       try clear hcz46_2
       try clear hcz51_0
       try clear hcz51_1
       try clear hcz51_2
       try clear hcz54_0
       try clear hcz54_1
       try clear hcz54_2
       try clear hcz69_0
       try clear hcz69_1
       try clear hcz69_2
       try clear hcz6_0
       try clear hcz6_1
       try clear hcz6_2
       try clear hcz77_0
       try clear hcz77_1
       try clear hcz77_2
       try clear hcz80_0
       try clear hcz80_1
       try clear hcz80_2
       try clear hcz85_0
       try clear hcz85_1
       try clear hcz85_2
       try clear hcz88_0
       try clear hcz88_1
       try clear hcz88_2
       try clear hfz14_0
       try clear hfz14_1
       try clear hfz14_2
       try clear hfz16_0
       try clear hfz16_1
       try clear hfz16_2
       try clear hfz22_0
       try clear hfz22_1
       try clear hfz22_2
       try clear hfz24_0
       try clear hfz24_1
       try clear hfz24_2
       try clear hfz29_0
       try clear hfz29_1
       try clear hfz29_2
       try clear hfz36_0
       try clear hfz36_1
       try clear hfz36_2
       try clear hfz43_0
       try clear hfz43_1
       try clear hfz43_2
       try clear hfz46_0
       try clear hfz46_1
       try clear hfz46_2
       try clear hfz51_0
       try clear hfz51_1
       try clear hfz51_2
       try clear hfz54_0
       try clear hfz54_1
       try clear hfz54_2
       try clear hfz69_0
       try clear hfz69_1
       try clear hfz69_2
       try clear hfz6_0
       try clear hfz6_1
       try clear hfz6_2
       try clear hfz77_0
       try clear hfz77_1
       try clear hfz77_2
       try clear hfz80_0
       try clear hfz80_1
       try clear hfz80_2
       try clear hfz85_0
       try clear hfz85_1
       try clear hfz85_2
       try clear hfz88_0
       try clear hfz88_1
       try clear hfz88_2
       try clear p2
       obtain ⟨kq, x65_60, rfl, HA, HJ60, HO_253002, HO_259002, HO_266002, BK239, BK252, BK258, BK265, HB⟩ := hcut
       have hl259002_60 := (Kd.R_reads' HO_259002.out).1
       rw [hl259002_60] at HO_259002
       (try simp only [hl259002_60])
       (try simp only [hl259002_60] at BK239)
       (try simp only [hl259002_60] at BK252)
       (try simp only [hl259002_60] at BK258)
       (try simp only [hl259002_60] at BK265)
       (try simp only [hl259002_60] at HO_253002)
       (try simp only [hl259002_60] at HO_266002)
       cases kq with
       | zero => exact absurd HA.out (by simp [laws_FnExactTableLeave.j1])
       | succ kj60 =>
        have H := HA.out
        clear HA
        simp only [laws_FnExactTableLeave.j1] at H
        by_cases c90 : x65_60 = true
        ·subst c90
         have H1 : (some false) = some r := by rw [if_pos rfl] at H; exact H
         clear H
         have H := H1
         clear H1
         exact absurd (Option.some.inj H) (by rw [HTR.out]; decide)
        ·replace c90 := Bool.eq_false_iff.mpr c90
         subst c90
         have H1 : ((laws_markTable.f kj60 t259 t260 t261 1).bind fun bt276 => ((laws_heldTable.f kj60 t259 t260 bt276.2 1).bind fun t278 => (if t278 < 0 then (some false) else (if t278 = bt276.1 then ((laws_toTable.f kj60 a0_0 a0_1 l0_2).bind fun bt279 => ((impl_TableLeave.f kj60 bt279.1 bt279.2.1 bt279.2.2 a1).bind fun bt284 => ((laws_eqTable.f kj60 bt284.1 bt284.2.1 bt284.2.2.1 t246 t247 t248).bind fun t291 => (if t291 = true then (laws_FnExactTableLeave.j2 kj60 bt276.1 (bt284.2.2.2 != t251) t259 t260 bt276.2) else (laws_FnExactTableLeave.j2 kj60 bt276.1 true t259 t260 bt276.2))))) else (some false))))) = some r := by rw [if_neg (show ¬ (false = true) by decide)] at H; exact H
         clear H
         have H := H1
         clear H1
         replace H := Option.bind_eq_some_iff.mp H
         obtain ⟨⟨t276, t277⟩, A910, H⟩ := H
         replace H : ((laws_heldTable.f kj60 t259 t260 t277 1).bind fun t278 => (if t278 < 0 then (some false) else (if t278 = t276 then ((laws_toTable.f kj60 a0_0 a0_1 l0_2).bind fun bt279 => ((impl_TableLeave.f kj60 bt279.1 bt279.2.1 bt279.2.2 a1).bind fun bt284 => ((laws_eqTable.f kj60 bt284.1 bt284.2.1 bt284.2.2.1 t246 t247 t248).bind fun t291 => (if t291 = true then (laws_FnExactTableLeave.j2 kj60 t276 (bt284.2.2.2 != t251) t259 t260 t277) else (laws_FnExactTableLeave.j2 kj60 t276 true t259 t260 t277))))) else (some false)))) = some r := H
         have A91 := Aside0.mk A910
         clear A910
         replace H := Option.bind_eq_some_iff.mp H
         obtain ⟨t278, A920, H⟩ := H
         replace H : (if t278 < 0 then (some false) else (if t278 = t276 then ((laws_toTable.f kj60 a0_0 a0_1 l0_2).bind fun bt279 => ((impl_TableLeave.f kj60 bt279.1 bt279.2.1 bt279.2.2 a1).bind fun bt284 => ((laws_eqTable.f kj60 bt284.1 bt284.2.1 bt284.2.2.1 t246 t247 t248).bind fun t291 => (if t291 = true then (laws_FnExactTableLeave.j2 kj60 t276 (bt284.2.2.2 != t251) t259 t260 t277) else (laws_FnExactTableLeave.j2 kj60 t276 true t259 t260 t277))))) else (some false))) = some r := H
         have A92 := Aside0.mk A920
         clear A920
         by_cases c93 : t278 < 0
         ·rw [if_pos c93] at H
          have c93b0 : decide (t278 < 0) = true := decide_eq_true c93
          clear c93
          exact absurd (Option.some.inj H) (by rw [HTR.out]; decide)
         ·rw [if_neg c93] at H
          have c93b0 : decide (t278 < 0) = false := decide_eq_false c93
          clear c93
          by_cases c94 : t278 = t276
          ·rw [if_pos c94] at H
           have c94b0 : (t278 == t276) = true := beq_iff_eq.mpr c94
           have c94b1 : (t278 != t276) = false := bne_eq_false_iff_eq.mpr c94
           clear c94
           replace H := Option.bind_eq_some_iff.mp H
           obtain ⟨⟨t279, t280, t281⟩, A950, H⟩ := H
           replace H : ((impl_TableLeave.f kj60 t279 t280 t281 a1).bind fun bt284 => ((laws_eqTable.f kj60 bt284.1 bt284.2.1 bt284.2.2.1 t246 t247 t248).bind fun t291 => (if t291 = true then (laws_FnExactTableLeave.j2 kj60 t276 (bt284.2.2.2 != t251) t259 t260 t277) else (laws_FnExactTableLeave.j2 kj60 t276 true t259 t260 t277)))) = some r := H
           have A95 := Aside0.mk A950
           clear A950
           replace H := Option.bind_eq_some_iff.mp H
           obtain ⟨⟨t284, t285, t286, t289⟩, A960, H⟩ := H
           replace H : ((laws_eqTable.f kj60 t284 t285 t286 t246 t247 t248).bind fun t291 => (if t291 = true then (laws_FnExactTableLeave.j2 kj60 t276 (t289 != t251) t259 t260 t277) else (laws_FnExactTableLeave.j2 kj60 t276 true t259 t260 t277))) = some r := H
           have A96 := Aside0.mk A960
           clear A960
           have HC97 := Aside0.mk H
           clear H
           have hnb98 := NB265_239.out
           have hnc98 := NB239_265.out
           have hnb99 := NB265_252.out
           have hnc99 := NB252_265.out
           have hnb100 := NB265_258.out
           have hnc100 := NB258_265.out
           have hcz101_0 : wc.cell? ⟨gb265, 0, none⟩ = some (.int .i64 t259) := cl BK265.out 0 rfl
           have hcz101_1 : wc.cell? ⟨gb265, 1, none⟩ = some (.int .i64 t260) := cl BK265.out 1 rfl
           have hcz101_2 : wc.cell? ⟨gb265, 2, none⟩ = some (.slice Ao37 t261.length co37) := cl BK265.out 2 rfl
           have hfz101_0 := fz BK265.out 0
           have hfz101_1 := fz BK265.out 1
           have hfz101_2 := fz BK265.out 2
           go_upto_region 25 with (first | ((with_reducible refine gate_callee (f := 26) rfl ?_); refine goesL_ (some 68) rfl rfl Try.func26 (by kernel_rfl) rfl #[.agg #[.int .i64 t259, .int .i64 t260, .slice Ao37 t261.length co37], .int .i64 1] rfl (by (try simp only [List.map_toArray, List.map_cons, List.map_nil]); first | done | rfl | (simp only [List.length_drop, List.length_take]; rfl)) ?_; (with_reducible refine (laws_markTable.calls kj60 t259 t260 (fun k_ => some k_ = (.slice Ao37 t261.length co37 : Value).ownBlock) (.slice Ao37 t261.length co37) t261 1 t276 t277 w _ ?side1 ?side2 A91.out).mono ?_); (case side1 => repeat (first | (with_reducible first | exact HB.out | apply ba | apply bn | apply bd | refine bt ?_ GE239.out | refine bt ?_ GE252.out | refine bt ?_ GE258.out | refine bt ?_ GE265.out) | exact HB.out)); (case side2 => exact Kd.R_tight rfl HO_266002.out); rintro e w102 ⟨rfl, hy0, hb, hkp⟩; refine ⟨_, rfl, ?_⟩; have n0_ := Aside0.mk (Kd.R_mono (ok' := fun k_ => some k_ ≠ (.slice Ao30 t274.length co30 : Value).ownBlock ∧ some k_ ≠ (.slice Ao37 t261.length co37 : Value).ownBlock) (Kd.R_keptB (HO_253002.out) hkp (fun k_ hk_ hs_ => (hk_.2) hs_)) (fun k_ hk_ => ⟨hk_.1.1, hk_.1.2⟩)); have n1_ := Aside0.mk (Kd.R_mono (ok' := fun k_ => some k_ ≠ (.slice Ao23 t248.length co23 : Value).ownBlock ∧ some k_ ≠ (.slice Ao37 t261.length co37 : Value).ownBlock) (Kd.R_keptB (HO_259002.out) hkp (fun k_ hk_ hs_ => (hk_.2) hs_)) (fun k_ hk_ => ⟨hk_.1.1, hk_.1.2⟩)); have n2_ := Aside0.mk (Kd.R_reok rfl hy0 (fun k_ e_ => HO_266002.out.1 k_ e_)); have n3_ := Aside0.mk (blk_kept (by (with_reducible repeat (first | refine blk_drewN ?_ _ | refine blk_drew ?_ | refine blk_alloc ?_ _)); exact BK239.out) hkp (fun hs_ => (fun e_ => (Kd.R_ne HO_266002.out BK239.out (by decide)) e_) hs_)); have n4_ := Aside0.mk (blk_kept (by (with_reducible repeat (first | refine blk_drewN ?_ _ | refine blk_drew ?_ | refine blk_alloc ?_ _)); exact BK252.out) hkp (fun hs_ => (fun e_ => (Kd.R_ne HO_266002.out BK252.out (by decide)) e_) hs_)); have n5_ := Aside0.mk (blk_kept (by (with_reducible repeat (first | refine blk_drewN ?_ _ | refine blk_drew ?_ | refine blk_alloc ?_ _)); exact BK258.out) hkp (fun hs_ => (fun e_ => (Kd.R_ne HO_266002.out BK258.out (by decide)) e_) hs_)); have n6_ := Aside0.mk (blk_kept (by (with_reducible repeat (first | refine blk_drewN ?_ _ | refine blk_drew ?_ | refine blk_alloc ?_ _)); exact BK265.out) hkp (fun hs_ => (fun e_ => (Kd.R_ne HO_266002.out BK265.out (by decide)) e_) hs_)); have n7_ := Aside0.mk (hb); clear HO_253002; clear HO_259002; clear HO_266002; clear BK239; clear BK252; clear BK258; clear BK265; clear HB; have HO_253002 := n0_; have HO_259002 := n1_; have HO_266002 := n2_; have BK239 := n3_; have BK252 := n4_; have BK258 := n5_; have BK265 := n6_; have HB := n7_; clear n0_ n1_ n2_ n3_ n4_ n5_ n6_ n7_; (try clear hb); (try clear hkp); (try clear hy0); have hcz103_0 : w102.cell? ⟨gb265, 0, none⟩ = some (.int .i64 t259) := cl BK265.out 0 rfl; have hcz103_1 : w102.cell? ⟨gb265, 1, none⟩ = some (.int .i64 t260) := cl BK265.out 1 rfl; have hcz103_2 : w102.cell? ⟨gb265, 2, none⟩ = some (.slice Ao37 t261.length co37) := cl BK265.out 2 rfl; have hfz103_0 := fz BK265.out 0; have hfz103_1 := fz BK265.out 1; have hfz103_2 := fz BK265.out 2) | ((with_reducible refine gate_callee (f := 27) rfl ?_); refine goesL_ (some 71) rfl rfl Try.func27 (by kernel_rfl) rfl #[.agg #[.int .i64 t259, .int .i64 t260, .slice Ao37 t277.length co37], .int .i64 1] rfl (by (try simp only [List.map_toArray, List.map_cons, List.map_nil]); first | done | (rw [show t277.length = t261.length from (Kd.R_reads' HO_266002.out).1.symm] <;> rfl) | rfl | (simp only [List.length_drop, List.length_take]; rfl)) ?_; (with_reducible refine (laws_heldTable.calls kj60 t259 t260 _ _ t277 1 t278 _ ?side1 ?side2 A92.out).mono ?_); (case side1 => repeat (first | exact (Kd.R_reads' HO_266002.out).2.2 | (with_reducible refine Kd.C_alloc ?_ _) | (with_reducible refine Kd.C_drewN ?_ _) | (with_reducible refine Kd.C_drew ?_))); (case side2 => rw [show t277.length = t261.length from (Kd.R_reads' HO_266002.out).1.symm]; exact (Kd.R_reads' HO_266002.out).2.1); rintro e w104 ⟨rfl, hb⟩; refine ⟨_, rfl, ?_⟩; have n0_ := Aside0.mk (Kd.R_below (by (with_reducible repeat (first | apply Kd.R_alloc | apply Kd.R_drewN | apply Kd.R_drew)); exact HO_253002.out) hb); have n1_ := Aside0.mk (Kd.R_below (by (with_reducible repeat (first | apply Kd.R_alloc | apply Kd.R_drewN | apply Kd.R_drew)); exact HO_259002.out) hb); have n2_ := Aside0.mk (Kd.R_below (by (with_reducible repeat (first | apply Kd.R_alloc | apply Kd.R_drewN | apply Kd.R_drew)); exact HO_266002.out) hb); have n3_ := Aside0.mk (blk_below (g := gb239) (o := .cells #[.int .i64 a0_0, .int .i64 a0_1, .slice A0_2 l0_2.length c0_2] 24 (0, 0)) (by (with_reducible repeat (first | refine blk_drewN ?_ _ | refine blk_drew ?_ | refine blk_alloc ?_ _)); exact BK239.out) hb); have n4_ := Aside0.mk (blk_below (g := gb252) (o := .cells #[.int .i64 t246, .int .i64 t247, .slice Ao23 t248.length co23] 29 (0, 0)) (by (with_reducible repeat (first | refine blk_drewN ?_ _ | refine blk_drew ?_ | refine blk_alloc ?_ _)); exact BK252.out) hb); have n5_ := Aside0.mk (blk_below (g := gb258) (o := .cells #[.int .i64 t253, .int .i64 t254, .slice Ao30 t274.length co30] 29 (0, 0)) (by (with_reducible repeat (first | refine blk_drewN ?_ _ | refine blk_drew ?_ | refine blk_alloc ?_ _)); exact BK258.out) hb); have n6_ := Aside0.mk (blk_below (g := gb265) (o := .cells #[.int .i64 t259, .int .i64 t260, .slice Ao37 t261.length co37] 29 (0, 0)) (by (with_reducible repeat (first | refine blk_drewN ?_ _ | refine blk_drew ?_ | refine blk_alloc ?_ _)); exact BK265.out) hb); have n7_ := Aside0.mk (below_step (by repeat (first | (with_reducible first | exact HB.out | apply ba | apply bn | apply bd | refine bt ?_ GE239.out | refine bt ?_ GE252.out | refine bt ?_ GE258.out | refine bt ?_ GE265.out) | exact HB.out)) hb); clear HO_253002; clear HO_259002; clear HO_266002; clear BK239; clear BK252; clear BK258; clear BK265; clear HB; have HO_253002 := n0_; have HO_259002 := n1_; have HO_266002 := n2_; have BK239 := n3_; have BK252 := n4_; have BK258 := n5_; have BK265 := n6_; have HB := n7_; clear n0_ n1_ n2_ n3_ n4_ n5_ n6_ n7_; (try clear hb); (try clear hb2); (try clear hk); (try clear hi); have hnb105 := NB239_252.out; have hnc105 := NB252_239.out; have hnb106 := NB239_258.out; have hnc106 := NB258_239.out; have hcz107_0 : w104.cell? ⟨gb239, 0, none⟩ = some (.int .i64 a0_0) := cl BK239.out 0 rfl; have hcz107_1 : w104.cell? ⟨gb239, 1, none⟩ = some (.int .i64 a0_1) := cl BK239.out 1 rfl; have hcz107_2 : w104.cell? ⟨gb239, 2, none⟩ = some (.slice A0_2 l0_2.length c0_2) := cl BK239.out 2 rfl; have hfz107_0 := fz BK239.out 0; have hfz107_1 := fz BK239.out 1; have hfz107_2 := fz BK239.out 2) | ((with_reducible refine gate_callee (f := 19) rfl ?_); refine goesL_ (some 79) rfl rfl Try.func19 (by kernel_rfl) rfl #[.agg #[.int .i64 a0_0, .int .i64 a0_1, .slice A0_2 l0_2.length c0_2]] rfl (by (try simp only [List.map_toArray, List.map_cons, List.map_nil]); first | done | rfl | (simp only [List.length_drop, List.length_take]; rfl)) ?_; (with_reducible refine (laws_toTable.calls kj60 a0_0 a0_1 _ _ l0_2 t279 t280 t281 _ ?side1 ?side2 A95.out).mono ?_); (case side1 => repeat (first | exact (Kd.C_below HR0_2.out HB.out) | (with_reducible refine Kd.C_alloc ?_ _) | (with_reducible refine Kd.C_drewN ?_ _) | (with_reducible refine Kd.C_drew ?_))); (case side2 => exact HC0_2.out); rintro e w108 ⟨v282, rfl, ho0, hb⟩; refine ⟨_, rfl, ?_⟩; have n0_ := Aside0.mk (Kd.R_elder' (by (with_reducible repeat (first | apply Kd.R_alloc | apply Kd.R_drewN | apply Kd.R_drew)); exact HO_253002.out) (Kd.R_base ho0) hb); have n1_ := Aside0.mk (Kd.R_elder' (by (with_reducible repeat (first | apply Kd.R_alloc | apply Kd.R_drewN | apply Kd.R_drew)); exact HO_259002.out) (Kd.R_base ho0) hb); have n2_ := Aside0.mk (Kd.R_elder' (by (with_reducible repeat (first | apply Kd.R_alloc | apply Kd.R_drewN | apply Kd.R_drew)); exact HO_266002.out) (Kd.R_base ho0) hb); have n3_ := Aside0.mk (Kd.R_lower (Kd.R_new' (Kd.R_new' (Kd.R_new' ho0 (Kd.R_lt (by (with_reducible repeat (first | apply Kd.R_alloc | apply Kd.R_drewN | apply Kd.R_drew)); exact HO_253002.out))) (Kd.R_lt (by (with_reducible repeat (first | apply Kd.R_alloc | apply Kd.R_drewN | apply Kd.R_drew)); exact HO_259002.out))) (Kd.R_lt (by (with_reducible repeat (first | apply Kd.R_alloc | apply Kd.R_drewN | apply Kd.R_drew)); exact HO_266002.out))) (below_size (by repeat (first | (with_reducible first | exact HB.out | apply ba | apply bn | apply bd | refine bt ?_ GE239.out | refine bt ?_ GE252.out | refine bt ?_ GE258.out | refine bt ?_ GE265.out) | exact HB.out)))); have n4_ := Aside0.mk (blk_below (g := gb239) (o := .cells #[.int .i64 a0_0, .int .i64 a0_1, .slice A0_2 l0_2.length c0_2] 24 (0, 0)) (by (with_reducible repeat (first | refine blk_drewN ?_ _ | refine blk_drew ?_ | refine blk_alloc ?_ _)); exact BK239.out) hb); have n5_ := Aside0.mk (blk_below (g := gb252) (o := .cells #[.int .i64 t246, .int .i64 t247, .slice Ao23 t248.length co23] 29 (0, 0)) (by (with_reducible repeat (first | refine blk_drewN ?_ _ | refine blk_drew ?_ | refine blk_alloc ?_ _)); exact BK252.out) hb); have n6_ := Aside0.mk (blk_below (g := gb258) (o := .cells #[.int .i64 t253, .int .i64 t254, .slice Ao30 t274.length co30] 29 (0, 0)) (by (with_reducible repeat (first | refine blk_drewN ?_ _ | refine blk_drew ?_ | refine blk_alloc ?_ _)); exact BK258.out) hb); have n7_ := Aside0.mk (blk_below (g := gb265) (o := .cells #[.int .i64 t259, .int .i64 t260, .slice Ao37 t261.length co37] 29 (0, 0)) (by (with_reducible repeat (first | refine blk_drewN ?_ _ | refine blk_drew ?_ | refine blk_alloc ?_ _)); exact BK265.out) hb); have n8_ := Aside0.mk (below_step (by repeat (first | (with_reducible first | exact HB.out | apply ba | apply bn | apply bd | refine bt ?_ GE239.out | refine bt ?_ GE252.out | refine bt ?_ GE258.out | refine bt ?_ GE265.out) | exact HB.out)) hb); clear HO_253002; clear HO_259002; clear HO_266002; clear BK239; clear BK252; clear BK258; clear BK265; clear HB; have HO_253002 := n0_; have HO_259002 := n1_; have HO_266002 := n2_; have HO283 := n3_; have BK239 := n4_; have BK252 := n5_; have BK258 := n6_; have BK265 := n7_; have HB := n8_; clear n0_ n1_ n2_ n3_ n4_ n5_ n6_ n7_ n8_; (try clear hb); (try clear hb2); (try clear hk); (try clear hi); (try clear ho0); obtain ⟨Ao109, co109, eo109⟩ := Kd.R_slice HO283.out; subst eo109) | ((with_reducible refine gate_callee (f := 29) rfl ?_); refine goesL_ (some 81) rfl rfl Try.func29 (by kernel_rfl) rfl #[.agg #[.int .i64 t279, .int .i64 t280, .slice Ao109 t281.length co109], .int .i64 a1] rfl (by (try simp only [List.map_toArray, List.map_cons, List.map_nil]); first | done | rfl | (simp only [List.length_drop, List.length_take]; rfl)) ?_; (with_reducible refine (impl_TableLeave.calls kj60 t279 t280 _ _ t281 a1 t284 t285 t286 t289 _ ?side1 ?side2 A96.out).mono ?_); (case side1 => repeat (first | exact (Kd.R_reads' HO283.out).2.2 | (with_reducible refine Kd.C_alloc ?_ _) | (with_reducible refine Kd.C_drewN ?_ _) | (with_reducible refine Kd.C_drew ?_))); (case side2 => exact (Kd.R_reads' HO283.out).2.1); rintro e w110 ⟨v287, rfl, ho0, hb⟩; refine ⟨_, rfl, ?_⟩; have n0_ := Aside0.mk (Kd.R_elder' (by (with_reducible repeat (first | apply Kd.R_alloc | apply Kd.R_drewN | apply Kd.R_drew)); exact HO_253002.out) (Kd.R_base ho0) hb); have n1_ := Aside0.mk (Kd.R_elder' (by (with_reducible repeat (first | apply Kd.R_alloc | apply Kd.R_drewN | apply Kd.R_drew)); exact HO_259002.out) (Kd.R_base ho0) hb); have n2_ := Aside0.mk (Kd.R_elder' (by (with_reducible repeat (first | apply Kd.R_alloc | apply Kd.R_drewN | apply Kd.R_drew)); exact HO_266002.out) (Kd.R_base ho0) hb); have n3_ := Aside0.mk (Kd.R_elder' (by (with_reducible repeat (first | apply Kd.R_alloc | apply Kd.R_drewN | apply Kd.R_drew)); exact HO283.out) (Kd.R_base ho0) hb); have n4_ := Aside0.mk (Kd.R_lower (Kd.R_new' (Kd.R_new' (Kd.R_new' (Kd.R_new' ho0 (Kd.R_lt (by (with_reducible repeat (first | apply Kd.R_alloc | apply Kd.R_drewN | apply Kd.R_drew)); exact HO_253002.out))) (Kd.R_lt (by (with_reducible repeat (first | apply Kd.R_alloc | apply Kd.R_drewN | apply Kd.R_drew)); exact HO_259002.out))) (Kd.R_lt (by (with_reducible repeat (first | apply Kd.R_alloc | apply Kd.R_drewN | apply Kd.R_drew)); exact HO_266002.out))) (Kd.R_lt (by (with_reducible repeat (first | apply Kd.R_alloc | apply Kd.R_drewN | apply Kd.R_drew)); exact HO283.out))) (below_size (by repeat (first | (with_reducible first | exact HB.out | apply ba | apply bn | apply bd | refine bt ?_ GE239.out | refine bt ?_ GE252.out | refine bt ?_ GE258.out | refine bt ?_ GE265.out) | exact HB.out)))); have n5_ := Aside0.mk (blk_below (g := gb239) (o := .cells #[.int .i64 a0_0, .int .i64 a0_1, .slice A0_2 l0_2.length c0_2] 24 (0, 0)) (by (with_reducible repeat (first | refine blk_drewN ?_ _ | refine blk_drew ?_ | refine blk_alloc ?_ _)); exact BK239.out) hb); have n6_ := Aside0.mk (blk_below (g := gb252) (o := .cells #[.int .i64 t246, .int .i64 t247, .slice Ao23 t248.length co23] 29 (0, 0)) (by (with_reducible repeat (first | refine blk_drewN ?_ _ | refine blk_drew ?_ | refine blk_alloc ?_ _)); exact BK252.out) hb); have n7_ := Aside0.mk (blk_below (g := gb258) (o := .cells #[.int .i64 t253, .int .i64 t254, .slice Ao30 t274.length co30] 29 (0, 0)) (by (with_reducible repeat (first | refine blk_drewN ?_ _ | refine blk_drew ?_ | refine blk_alloc ?_ _)); exact BK258.out) hb); have n8_ := Aside0.mk (blk_below (g := gb265) (o := .cells #[.int .i64 t259, .int .i64 t260, .slice Ao37 t261.length co37] 29 (0, 0)) (by (with_reducible repeat (first | refine blk_drewN ?_ _ | refine blk_drew ?_ | refine blk_alloc ?_ _)); exact BK265.out) hb); have n9_ := Aside0.mk (below_step (by repeat (first | (with_reducible first | exact HB.out | apply ba | apply bn | apply bd | refine bt ?_ GE239.out | refine bt ?_ GE252.out | refine bt ?_ GE258.out | refine bt ?_ GE265.out) | exact HB.out)) hb); clear HO_253002; clear HO_259002; clear HO_266002; clear HO283; clear BK239; clear BK252; clear BK258; clear BK265; clear HB; have HO_253002 := n0_; have HO_259002 := n1_; have HO_266002 := n2_; have HO283 := n3_; have HO288 := n4_; have BK239 := n5_; have BK252 := n6_; have BK258 := n7_; have BK265 := n8_; have HB := n9_; clear n0_ n1_ n2_ n3_ n4_ n5_ n6_ n7_ n8_ n9_; (try clear hb); (try clear hb2); (try clear hk); (try clear hi); (try clear ho0)) | ((with_reducible refine gate_dst (N := 14) rfl ?_); refine box_event ?hg (N := 14) ?hd (cs := #[.int .i64 0, .int .i64 0, .slice none 0 0]) (t := 29) ?hr ?_; (case hd => rfl); (case hg => rfl); (case hr => first | (go_simp; done) | (go_simp; rfl)); intro gb290 hg w111 hbox hb; have n0_ := Aside0.mk (Kd.R_below (by (with_reducible repeat (first | apply Kd.R_alloc | apply Kd.R_drewN | apply Kd.R_drew)); exact HO_253002.out) hb); have n1_ := Aside0.mk (Kd.R_below (by (with_reducible repeat (first | apply Kd.R_alloc | apply Kd.R_drewN | apply Kd.R_drew)); exact HO_259002.out) hb); have n2_ := Aside0.mk (Kd.R_below (by (with_reducible repeat (first | apply Kd.R_alloc | apply Kd.R_drewN | apply Kd.R_drew)); exact HO_266002.out) hb); have n3_ := Aside0.mk (Kd.R_below (by (with_reducible repeat (first | apply Kd.R_alloc | apply Kd.R_drewN | apply Kd.R_drew)); exact HO283.out) hb); have n4_ := Aside0.mk (Kd.R_below (by (with_reducible repeat (first | apply Kd.R_alloc | apply Kd.R_drewN | apply Kd.R_drew)); exact HO288.out) hb); have n5_ := Aside0.mk (blk_below (g := gb239) (o := .cells #[.int .i64 a0_0, .int .i64 a0_1, .slice A0_2 l0_2.length c0_2] 24 (0, 0)) (by (with_reducible repeat (first | refine blk_drewN ?_ _ | refine blk_drew ?_ | refine blk_alloc ?_ _)); exact BK239.out) hb); have n6_ := Aside0.mk (blk_below (g := gb252) (o := .cells #[.int .i64 t246, .int .i64 t247, .slice Ao23 t248.length co23] 29 (0, 0)) (by (with_reducible repeat (first | refine blk_drewN ?_ _ | refine blk_drew ?_ | refine blk_alloc ?_ _)); exact BK252.out) hb); have n7_ := Aside0.mk (blk_below (g := gb258) (o := .cells #[.int .i64 t253, .int .i64 t254, .slice Ao30 t274.length co30] 29 (0, 0)) (by (with_reducible repeat (first | refine blk_drewN ?_ _ | refine blk_drew ?_ | refine blk_alloc ?_ _)); exact BK258.out) hb); have n8_ := Aside0.mk (blk_below (g := gb265) (o := .cells #[.int .i64 t259, .int .i64 t260, .slice Ao37 t261.length co37] 29 (0, 0)) (by (with_reducible repeat (first | refine blk_drewN ?_ _ | refine blk_drew ?_ | refine blk_alloc ?_ _)); exact BK265.out) hb); have n9_ := Aside0.mk (below_step (by repeat (first | (with_reducible first | exact HB.out | apply ba | apply bn | apply bd | refine bt ?_ GE239.out | refine bt ?_ GE252.out | refine bt ?_ GE258.out | refine bt ?_ GE265.out) | exact HB.out)) hb); have n10_ := Aside0.mk (hbox); have n11_ := Aside0.mk ((by rw [hg]; exact (below_size (by repeat (first | (with_reducible first | exact HB.out | apply ba | apply bn | apply bd | refine bt ?_ GE239.out | refine bt ?_ GE252.out | refine bt ?_ GE258.out | refine bt ?_ GE265.out) | exact HB.out))) : w.heap.size ≤ gb290)); have n12_ := Aside0.mk ((by rw [hg]; exact (below_size (by repeat (first | (with_reducible first | exact HB.out | apply ba | apply bn | apply bd | refine bt ?_ GE239.out | refine bt ?_ GE252.out | refine bt ?_ GE258.out | refine bt ?_ GE265.out) | exact HB.out))) : w.heap.size ≤ gb290)); have n13_ := Aside0.mk ((by rw [hg]; exact Nat.ne_of_lt (blk_lt (g := gb239) (o := .cells #[.int .i64 a0_0, .int .i64 a0_1, .slice A0_2 l0_2.length c0_2] 24 (0, 0)) (by (with_reducible repeat (first | refine blk_drewN ?_ _ | refine blk_drew ?_ | refine blk_alloc ?_ _)); exact BK239.out)) : gb239 ≠ gb290)); have n14_ := Aside0.mk ((by rw [hg]; exact Nat.ne_of_gt (blk_lt (g := gb239) (o := .cells #[.int .i64 a0_0, .int .i64 a0_1, .slice A0_2 l0_2.length c0_2] 24 (0, 0)) (by (with_reducible repeat (first | refine blk_drewN ?_ _ | refine blk_drew ?_ | refine blk_alloc ?_ _)); exact BK239.out)) : gb290 ≠ gb239)); have n15_ := Aside0.mk ((by rw [hg]; exact Nat.ne_of_lt (blk_lt (g := gb252) (o := .cells #[.int .i64 t246, .int .i64 t247, .slice Ao23 t248.length co23] 29 (0, 0)) (by (with_reducible repeat (first | refine blk_drewN ?_ _ | refine blk_drew ?_ | refine blk_alloc ?_ _)); exact BK252.out)) : gb252 ≠ gb290)); have n16_ := Aside0.mk ((by rw [hg]; exact Nat.ne_of_gt (blk_lt (g := gb252) (o := .cells #[.int .i64 t246, .int .i64 t247, .slice Ao23 t248.length co23] 29 (0, 0)) (by (with_reducible repeat (first | refine blk_drewN ?_ _ | refine blk_drew ?_ | refine blk_alloc ?_ _)); exact BK252.out)) : gb290 ≠ gb252)); have n17_ := Aside0.mk ((by rw [hg]; exact Nat.ne_of_lt (blk_lt (g := gb258) (o := .cells #[.int .i64 t253, .int .i64 t254, .slice Ao30 t274.length co30] 29 (0, 0)) (by (with_reducible repeat (first | refine blk_drewN ?_ _ | refine blk_drew ?_ | refine blk_alloc ?_ _)); exact BK258.out)) : gb258 ≠ gb290)); have n18_ := Aside0.mk ((by rw [hg]; exact Nat.ne_of_gt (blk_lt (g := gb258) (o := .cells #[.int .i64 t253, .int .i64 t254, .slice Ao30 t274.length co30] 29 (0, 0)) (by (with_reducible repeat (first | refine blk_drewN ?_ _ | refine blk_drew ?_ | refine blk_alloc ?_ _)); exact BK258.out)) : gb290 ≠ gb258)); have n19_ := Aside0.mk ((by rw [hg]; exact Nat.ne_of_lt (blk_lt (g := gb265) (o := .cells #[.int .i64 t259, .int .i64 t260, .slice Ao37 t261.length co37] 29 (0, 0)) (by (with_reducible repeat (first | refine blk_drewN ?_ _ | refine blk_drew ?_ | refine blk_alloc ?_ _)); exact BK265.out)) : gb265 ≠ gb290)); have n20_ := Aside0.mk ((by rw [hg]; exact Nat.ne_of_gt (blk_lt (g := gb265) (o := .cells #[.int .i64 t259, .int .i64 t260, .slice Ao37 t261.length co37] 29 (0, 0)) (by (with_reducible repeat (first | refine blk_drewN ?_ _ | refine blk_drew ?_ | refine blk_alloc ?_ _)); exact BK265.out)) : gb290 ≠ gb265)); clear HO_253002; clear HO_259002; clear HO_266002; clear HO283; clear HO288; clear BK239; clear BK252; clear BK258; clear BK265; clear HB; have HO_253002 := n0_; have HO_259002 := n1_; have HO_266002 := n2_; have HO283 := n3_; have HO288 := n4_; have BK239 := n5_; have BK252 := n6_; have BK258 := n7_; have BK265 := n8_; have HB := n9_; have BK290 := n10_; have GW290 := n11_; have GE290 := n12_; have NB239_290 := n13_; have NB290_239 := n14_; have NB252_290 := n15_; have NB290_252 := n16_; have NB258_290 := n17_; have NB290_258 := n18_; have NB265_290 := n19_; have NB290_265 := n20_; clear n0_ n1_ n2_ n3_ n4_ n5_ n6_ n7_ n8_ n9_ n10_ n11_ n12_ n13_ n14_ n15_ n16_ n17_ n18_ n19_ n20_; clear hb hbox hg; have hnb112 := NB290_239.out; have hnc112 := NB239_290.out; have hnb113 := NB290_252.out; have hnc113 := NB252_290.out; have hnb114 := NB290_258.out; have hnc114 := NB258_290.out; have hnb115 := NB290_265.out; have hnc115 := NB265_290.out; have hcz116_0 : w111.cell? ⟨gb290, 0, none⟩ = some (.int .i64 0) := cl BK290.out 0 rfl; have hcz116_1 : w111.cell? ⟨gb290, 1, none⟩ = some (.int .i64 0) := cl BK290.out 1 rfl; have hcz116_2 : w111.cell? ⟨gb290, 2, none⟩ = some (.slice none 0 0) := cl BK290.out 2 rfl; have hfz116_0 := fz BK290.out 0; have hfz116_1 := fz BK290.out 1; have hfz116_2 := fz BK290.out 2; obtain ⟨Ao117, co117, eo117⟩ := Kd.R_slice HO288.out; subst eo117))
           (try simp only [Act.put, List.setIfInBounds_toArray, List.set_cons_zero, List.set_cons_succ])
           go_cut [92] (fun v92 wc => ∃ (kq : Nat) (x92_96 : Bool), v92 = .bool x92_96 ∧ Aside0 (laws_FnExactTableLeave.j2 kq t276 x92_96 t259 t260 t277 = some r) ∧ Aside0 (kq ≤ kj60) ∧ Aside0 (Kd.R k40 40 wc w.heap.size (fun k_ => some k_ ≠ ((.slice Ao30 t274.length co30) : Value).ownBlock ∧ some k_ ≠ ((.slice Ao37 t261.length co37) : Value).ownBlock ∧ some k_ ≠ ((.slice Ao117 t286.length co117) : Value).ownBlock) (.slice Ao23 t248.length co23) t248) ∧ Aside0 (Kd.R k40 40 wc w.heap.size (fun k_ => some k_ ≠ ((.slice Ao23 t248.length co23) : Value).ownBlock ∧ some k_ ≠ ((.slice Ao37 t261.length co37) : Value).ownBlock ∧ some k_ ≠ ((.slice Ao117 t286.length co117) : Value).ownBlock) (.slice Ao30 t274.length co30) t274) ∧ Aside0 (Kd.R k40 40 wc w.heap.size (fun k_ => some k_ ≠ ((.slice Ao23 t248.length co23) : Value).ownBlock ∧ some k_ ≠ ((.slice Ao30 t274.length co30) : Value).ownBlock ∧ some k_ ≠ ((.slice Ao117 t286.length co117) : Value).ownBlock) (.slice Ao37 t261.length co37) t277) ∧ Aside0 (Kd.R k40 40 wc w.heap.size (fun k_ => some k_ ≠ ((.slice Ao23 t248.length co23) : Value).ownBlock ∧ some k_ ≠ ((.slice Ao30 t274.length co30) : Value).ownBlock ∧ some k_ ≠ ((.slice Ao37 t261.length co37) : Value).ownBlock) (.slice Ao117 t286.length co117) t286) ∧ Aside0 (wc.heap[gb239]? = some (.cells #[.int .i64 a0_0, .int .i64 a0_1, (.slice A0_2 l0_2.length c0_2)] 24 (0, 0))) ∧ Aside0 (wc.heap[gb252]? = some (.cells #[.int .i64 t246, .int .i64 t247, (.slice Ao23 t248.length co23)] 29 (0, 0))) ∧ Aside0 (wc.heap[gb258]? = some (.cells #[.int .i64 t253, .int .i64 t254, (.slice Ao30 t274.length co30)] 29 (0, 0))) ∧ Aside0 (wc.heap[gb265]? = some (.cells #[.int .i64 t259, .int .i64 t260, (.slice Ao37 t261.length co37)] 29 (0, 0))) ∧ Aside0 (wc.heap[gb290]? = some (.cells #[.int .i64 t284, .int .i64 t285, (.slice Ao117 t286.length co117)] 29 (0, 0))) ∧ Aside0 (Below w.heap.size w wc))
           case first =>
            have H := HC97.out
            clear HC97
            replace H := Option.bind_eq_some_iff.mp H
            obtain ⟨t291, A1180, H⟩ := H
            replace H : (if t291 = true then (laws_FnExactTableLeave.j2 kj60 t276 (t289 != t251) t259 t260 t277) else (laws_FnExactTableLeave.j2 kj60 t276 true t259 t260 t277)) = some r := H
            have A118 := Aside0.mk A1180
            clear A1180
            by_cases c119 : t291 = true
            ·subst c119
             have H1 : (laws_FnExactTableLeave.j2 kj60 t276 (t289 != t251) t259 t260 t277) = some r := by rw [if_pos rfl] at H; exact H
             clear H
             have H := H1
             clear H1
             have H' := Aside0.mk H
             clear H
             have hnb120 := NB290_239.out
             have hnc120 := NB239_290.out
             have hnb121 := NB290_252.out
             have hnc121 := NB252_290.out
             have hnb122 := NB290_258.out
             have hnc122 := NB258_290.out
             have hnb123 := NB290_265.out
             have hnc123 := NB265_290.out
             have hcz124_0 : w111.cell? ⟨gb290, 0, none⟩ = some (.int .i64 0) := cl BK290.out 0 rfl
             have hcz124_1 : w111.cell? ⟨gb290, 1, none⟩ = some (.int .i64 0) := cl BK290.out 1 rfl
             have hcz124_2 : w111.cell? ⟨gb290, 2, none⟩ = some (.slice none 0 0) := cl BK290.out 2 rfl
             have hfz124_0 := fz BK290.out 0
             have hfz124_1 := fz BK290.out 1
             have hfz124_2 := fz BK290.out 2
             have hnb125 := NB252_239.out
             have hnc125 := NB239_252.out
             have hnb126 := NB252_258.out
             have hnc126 := NB258_252.out
             have hnb127 := NB252_265.out
             have hnc127 := NB265_252.out
             have hcz128_0 : w111.cell? ⟨gb252, 0, none⟩ = some (.int .i64 t246) := cl BK252.out 0 rfl
             have hcz128_1 : w111.cell? ⟨gb252, 1, none⟩ = some (.int .i64 t247) := cl BK252.out 1 rfl
             have hcz128_2 : w111.cell? ⟨gb252, 2, none⟩ = some (.slice Ao23 t248.length co23) := cl BK252.out 2 rfl
             have hfz128_0 := fz BK252.out 0
             have hfz128_1 := fz BK252.out 1
             have hfz128_2 := fz BK252.out 2
             go_wp2_with (first | ((with_reducible refine gate_callee (f := 21) rfl ?_); refine goesL_ (some 86) rfl rfl Try.func21 (by kernel_rfl) rfl #[.agg #[.int .i64 t284, .int .i64 t285, .slice Ao117 t286.length co117], .agg #[.int .i64 t246, .int .i64 t247, .slice Ao23 t248.length co23]] rfl (by (try simp only [List.map_toArray, List.map_cons, List.map_nil]); first | done | rfl | (simp only [List.length_drop, List.length_take]; rfl)) ?_; (with_reducible refine (laws_eqTable.calls kj60 t284 t285 _ _ t286 t246 t247 _ _ t248 true _ ?side1 ?side2 ?side3 ?side4 A118.out).mono ?_); (case side1 => refine (Kd.R_reads' (e := 40) (base := w.heap.size) (ok := fun k_ => ((((True ∧ some k_ ≠ (.slice Ao23 t248.length co23 : Value).ownBlock) ∧ some k_ ≠ (.slice Ao30 t274.length co30 : Value).ownBlock) ∧ some k_ ≠ (.slice Ao37 t261.length co37 : Value).ownBlock) ∧ some k_ ≠ (.slice Ao109 t281.length co109 : Value).ownBlock)) (n := t286.length) (c := co117) ?_).2.2; exact (by (with_reducible repeat (first | apply Kd.R_alloc | apply Kd.R_drewN | apply Kd.R_drew)); exact (Kd.R_mono (rF (rF (rF (Kd.R_types HO288.out BK290.out (by decide)) _ _) _ _) _ _) (fun _ h_ => h_.1)))); (case side2 => exact (Kd.R_reads' HO288.out).2.1); (case side3 => refine (Kd.R_reads' (e := 40) (base := w.heap.size) (ok := fun k_ => (((some k_ ≠ (.slice Ao30 t274.length co30 : Value).ownBlock ∧ some k_ ≠ (.slice Ao37 t261.length co37 : Value).ownBlock) ∧ some k_ ≠ (.slice Ao109 t281.length co109 : Value).ownBlock) ∧ some k_ ≠ (.slice Ao117 t286.length co117 : Value).ownBlock)) (n := t248.length) (c := co23) ?_).2.2; exact (by (with_reducible repeat (first | apply Kd.R_alloc | apply Kd.R_drewN | apply Kd.R_drew)); exact (Kd.R_mono (rF (rF (rF (Kd.R_types HO_253002.out BK290.out (by decide)) _ _) _ _) _ _) (fun _ h_ => h_.1)))); (case side4 => exact (Kd.R_reads' HO_253002.out).2.1); rintro e w129 ⟨rfl, hb⟩; refine ⟨_, rfl, ?_⟩; have n0_ := Aside0.mk (Kd.R_below (by (with_reducible repeat (first | apply Kd.R_alloc | apply Kd.R_drewN | apply Kd.R_drew)); exact (Kd.R_mono (rF (rF (rF (Kd.R_types HO_253002.out BK290.out (by decide)) _ _) _ _) _ _) (fun _ h_ => h_.1))) hb); have n1_ := Aside0.mk (Kd.R_below (by (with_reducible repeat (first | apply Kd.R_alloc | apply Kd.R_drewN | apply Kd.R_drew)); exact (Kd.R_mono (rF (rF (rF (Kd.R_types HO_259002.out BK290.out (by decide)) _ _) _ _) _ _) (fun _ h_ => h_.1))) hb); have n2_ := Aside0.mk (Kd.R_below (by (with_reducible repeat (first | apply Kd.R_alloc | apply Kd.R_drewN | apply Kd.R_drew)); exact (Kd.R_mono (rF (rF (rF (Kd.R_types HO_266002.out BK290.out (by decide)) _ _) _ _) _ _) (fun _ h_ => h_.1))) hb); have n3_ := Aside0.mk (Kd.R_below (by (with_reducible repeat (first | apply Kd.R_alloc | apply Kd.R_drewN | apply Kd.R_drew)); exact (Kd.R_mono (rF (rF (rF (Kd.R_types HO283.out BK290.out (by decide)) _ _) _ _) _ _) (fun _ h_ => h_.1))) hb); have n4_ := Aside0.mk (Kd.R_below (by (with_reducible repeat (first | apply Kd.R_alloc | apply Kd.R_drewN | apply Kd.R_drew)); exact (Kd.R_mono (rF (rF (rF (Kd.R_types HO288.out BK290.out (by decide)) _ _) _ _) _ _) (fun _ h_ => h_.1))) hb); have n5_ := Aside0.mk (blk_below (g := gb239) (o := .cells #[.int .i64 a0_0, .int .i64 a0_1, .slice A0_2 l0_2.length c0_2] 24 (0, 0)) (by (with_reducible repeat (first | refine blk_drewN ?_ _ | refine blk_drew ?_ | refine blk_alloc ?_ _)); refine blk_far ?_ NB239_290.out _; (with_reducible repeat (first | refine blk_drewN ?_ _ | refine blk_drew ?_ | refine blk_alloc ?_ _)); refine blk_far ?_ NB239_290.out _; (with_reducible repeat (first | refine blk_drewN ?_ _ | refine blk_drew ?_ | refine blk_alloc ?_ _)); refine blk_far ?_ NB239_290.out _; (with_reducible repeat (first | refine blk_drewN ?_ _ | refine blk_drew ?_ | refine blk_alloc ?_ _)); exact BK239.out) hb); have n6_ := Aside0.mk (blk_below (g := gb252) (o := .cells #[.int .i64 t246, .int .i64 t247, .slice Ao23 t248.length co23] 29 (0, 0)) (by (with_reducible repeat (first | refine blk_drewN ?_ _ | refine blk_drew ?_ | refine blk_alloc ?_ _)); refine blk_far ?_ NB252_290.out _; (with_reducible repeat (first | refine blk_drewN ?_ _ | refine blk_drew ?_ | refine blk_alloc ?_ _)); refine blk_far ?_ NB252_290.out _; (with_reducible repeat (first | refine blk_drewN ?_ _ | refine blk_drew ?_ | refine blk_alloc ?_ _)); refine blk_far ?_ NB252_290.out _; (with_reducible repeat (first | refine blk_drewN ?_ _ | refine blk_drew ?_ | refine blk_alloc ?_ _)); exact BK252.out) hb); have n7_ := Aside0.mk (blk_below (g := gb258) (o := .cells #[.int .i64 t253, .int .i64 t254, .slice Ao30 t274.length co30] 29 (0, 0)) (by (with_reducible repeat (first | refine blk_drewN ?_ _ | refine blk_drew ?_ | refine blk_alloc ?_ _)); refine blk_far ?_ NB258_290.out _; (with_reducible repeat (first | refine blk_drewN ?_ _ | refine blk_drew ?_ | refine blk_alloc ?_ _)); refine blk_far ?_ NB258_290.out _; (with_reducible repeat (first | refine blk_drewN ?_ _ | refine blk_drew ?_ | refine blk_alloc ?_ _)); refine blk_far ?_ NB258_290.out _; (with_reducible repeat (first | refine blk_drewN ?_ _ | refine blk_drew ?_ | refine blk_alloc ?_ _)); exact BK258.out) hb); have n8_ := Aside0.mk (blk_below (g := gb265) (o := .cells #[.int .i64 t259, .int .i64 t260, .slice Ao37 t261.length co37] 29 (0, 0)) (by (with_reducible repeat (first | refine blk_drewN ?_ _ | refine blk_drew ?_ | refine blk_alloc ?_ _)); refine blk_far ?_ NB265_290.out _; (with_reducible repeat (first | refine blk_drewN ?_ _ | refine blk_drew ?_ | refine blk_alloc ?_ _)); refine blk_far ?_ NB265_290.out _; (with_reducible repeat (first | refine blk_drewN ?_ _ | refine blk_drew ?_ | refine blk_alloc ?_ _)); refine blk_far ?_ NB265_290.out _; (with_reducible repeat (first | refine blk_drewN ?_ _ | refine blk_drew ?_ | refine blk_alloc ?_ _)); exact BK265.out) hb); have n9_ := Aside0.mk (blk_below (g := gb290) (o := .cells #[.int .i64 t284, .int .i64 t285, .slice Ao117 t286.length co117] 29 (0, 0)) (by (with_reducible repeat (first | refine blk_drewN ?_ _ | refine blk_drew ?_ | refine blk_alloc ?_ _)); refine blk_put (cs := #[.int .i64 t284, .int .i64 t285, .slice none 0 0]) ?_ 2 _ rfl; (with_reducible repeat (first | refine blk_drewN ?_ _ | refine blk_drew ?_ | refine blk_alloc ?_ _)); refine blk_put (cs := #[.int .i64 t284, .int .i64 0, .slice none 0 0]) ?_ 1 _ rfl; (with_reducible repeat (first | refine blk_drewN ?_ _ | refine blk_drew ?_ | refine blk_alloc ?_ _)); refine blk_put (cs := #[.int .i64 0, .int .i64 0, .slice none 0 0]) ?_ 0 _ rfl; (with_reducible repeat (first | refine blk_drewN ?_ _ | refine blk_drew ?_ | refine blk_alloc ?_ _)); exact BK290.out) hb); have n10_ := Aside0.mk (below_step (by repeat (first | (with_reducible first | exact HB.out | apply ba | apply bn | apply bd | refine bt ?_ GE239.out | refine bt ?_ GE252.out | refine bt ?_ GE258.out | refine bt ?_ GE265.out | refine bt ?_ GE290.out) | exact HB.out)) hb); clear HO_253002; clear HO_259002; clear HO_266002; clear HO283; clear HO288; clear BK239; clear BK252; clear BK258; clear BK265; clear BK290; clear HB; have HO_253002 := n0_; have HO_259002 := n1_; have HO_266002 := n2_; have HO283 := n3_; have HO288 := n4_; have BK239 := n5_; have BK252 := n6_; have BK258 := n7_; have BK265 := n8_; have BK290 := n9_; have HB := n10_; clear n0_ n1_ n2_ n3_ n4_ n5_ n6_ n7_ n8_ n9_ n10_; (try clear hb); (try clear hb2); (try clear hk); (try clear hi)))
             go_meet
             case rel => exact ⟨_, ((t289 != t251)), (by first | rfl | (simp; done) | (simp [*]; done)), H', ⟨by have := HJ11.out; have := HJ60.out; first | omega | exact Nat.le_refl _⟩, ⟨by (try simp only [hl259002_60]); (with_reducible repeat (first | apply Kd.R_alloc | apply Kd.R_drewN | apply Kd.R_drew)); exact Kd.R_mono HO_253002.out (fun _ hk => ⟨hk.1.1.1, ⟨hk.1.1.2, hk.2⟩⟩)⟩, ⟨by (try simp only [hl259002_60]); (with_reducible repeat (first | apply Kd.R_alloc | apply Kd.R_drewN | apply Kd.R_drew)); exact Kd.R_mono HO_259002.out (fun _ hk => ⟨hk.1.1.1, ⟨hk.1.1.2, hk.2⟩⟩)⟩, ⟨by (try simp only [hl259002_60]); (with_reducible repeat (first | apply Kd.R_alloc | apply Kd.R_drewN | apply Kd.R_drew)); exact Kd.R_mono HO_266002.out (fun _ hk => ⟨hk.1.1.1, ⟨hk.1.1.2, hk.2⟩⟩)⟩, ⟨by (try simp only [hl259002_60]); (with_reducible repeat (first | apply Kd.R_alloc | apply Kd.R_drewN | apply Kd.R_drew)); exact Kd.R_mono HO288.out (fun _ hk => ⟨hk.1.1.1.2, ⟨hk.1.1.2, hk.1.2⟩⟩)⟩, ⟨by (try simp only [hl259002_60]); (with_reducible repeat (first | refine blk_drewN ?_ _ | refine blk_drew ?_ | refine blk_alloc ?_ _)); exact BK239.out⟩, ⟨by (try simp only [hl259002_60]); (with_reducible repeat (first | refine blk_drewN ?_ _ | refine blk_drew ?_ | refine blk_alloc ?_ _)); exact BK252.out⟩, ⟨by (try simp only [hl259002_60]); (with_reducible repeat (first | refine blk_drewN ?_ _ | refine blk_drew ?_ | refine blk_alloc ?_ _)); exact BK258.out⟩, ⟨by (try simp only [hl259002_60]); (with_reducible repeat (first | refine blk_drewN ?_ _ | refine blk_drew ?_ | refine blk_alloc ?_ _)); exact BK265.out⟩, ⟨by (try simp only [hl259002_60]); (with_reducible repeat (first | refine blk_drewN ?_ _ | refine blk_drew ?_ | refine blk_alloc ?_ _)); exact BK290.out⟩, ⟨by repeat (first | (with_reducible first | exact HB.out | apply ba | apply bn | apply bd | refine bt ?_ GE239.out | refine bt ?_ GE252.out | refine bt ?_ GE258.out | refine bt ?_ GE265.out | refine bt ?_ GE290.out) | exact HB.out)⟩⟩
            ·replace c119 := Bool.eq_false_iff.mpr c119
             subst c119
             have H1 : (laws_FnExactTableLeave.j2 kj60 t276 true t259 t260 t277) = some r := by rw [if_neg (show ¬ (false = true) by decide)] at H; exact H
             clear H
             have H := H1
             clear H1
             have H' := Aside0.mk H
             clear H
             have hnb130 := NB290_239.out
             have hnc130 := NB239_290.out
             have hnb131 := NB290_252.out
             have hnc131 := NB252_290.out
             have hnb132 := NB290_258.out
             have hnc132 := NB258_290.out
             have hnb133 := NB290_265.out
             have hnc133 := NB265_290.out
             have hcz134_0 : w111.cell? ⟨gb290, 0, none⟩ = some (.int .i64 0) := cl BK290.out 0 rfl
             have hcz134_1 : w111.cell? ⟨gb290, 1, none⟩ = some (.int .i64 0) := cl BK290.out 1 rfl
             have hcz134_2 : w111.cell? ⟨gb290, 2, none⟩ = some (.slice none 0 0) := cl BK290.out 2 rfl
             have hfz134_0 := fz BK290.out 0
             have hfz134_1 := fz BK290.out 1
             have hfz134_2 := fz BK290.out 2
             have hnb135 := NB252_239.out
             have hnc135 := NB239_252.out
             have hnb136 := NB252_258.out
             have hnc136 := NB258_252.out
             have hnb137 := NB252_265.out
             have hnc137 := NB265_252.out
             have hcz138_0 : w111.cell? ⟨gb252, 0, none⟩ = some (.int .i64 t246) := cl BK252.out 0 rfl
             have hcz138_1 : w111.cell? ⟨gb252, 1, none⟩ = some (.int .i64 t247) := cl BK252.out 1 rfl
             have hcz138_2 : w111.cell? ⟨gb252, 2, none⟩ = some (.slice Ao23 t248.length co23) := cl BK252.out 2 rfl
             have hfz138_0 := fz BK252.out 0
             have hfz138_1 := fz BK252.out 1
             have hfz138_2 := fz BK252.out 2
             go_wp2_with (first | ((with_reducible refine gate_callee (f := 21) rfl ?_); refine goesL_ (some 86) rfl rfl Try.func21 (by kernel_rfl) rfl #[.agg #[.int .i64 t284, .int .i64 t285, .slice Ao117 t286.length co117], .agg #[.int .i64 t246, .int .i64 t247, .slice Ao23 t248.length co23]] rfl (by (try simp only [List.map_toArray, List.map_cons, List.map_nil]); first | done | rfl | (simp only [List.length_drop, List.length_take]; rfl)) ?_; (with_reducible refine (laws_eqTable.calls kj60 t284 t285 _ _ t286 t246 t247 _ _ t248 false _ ?side1 ?side2 ?side3 ?side4 A118.out).mono ?_); (case side1 => refine (Kd.R_reads' (e := 40) (base := w.heap.size) (ok := fun k_ => ((((True ∧ some k_ ≠ (.slice Ao23 t248.length co23 : Value).ownBlock) ∧ some k_ ≠ (.slice Ao30 t274.length co30 : Value).ownBlock) ∧ some k_ ≠ (.slice Ao37 t261.length co37 : Value).ownBlock) ∧ some k_ ≠ (.slice Ao109 t281.length co109 : Value).ownBlock)) (n := t286.length) (c := co117) ?_).2.2; exact (by (with_reducible repeat (first | apply Kd.R_alloc | apply Kd.R_drewN | apply Kd.R_drew)); exact (Kd.R_mono (rF (rF (rF (Kd.R_types HO288.out BK290.out (by decide)) _ _) _ _) _ _) (fun _ h_ => h_.1)))); (case side2 => exact (Kd.R_reads' HO288.out).2.1); (case side3 => refine (Kd.R_reads' (e := 40) (base := w.heap.size) (ok := fun k_ => (((some k_ ≠ (.slice Ao30 t274.length co30 : Value).ownBlock ∧ some k_ ≠ (.slice Ao37 t261.length co37 : Value).ownBlock) ∧ some k_ ≠ (.slice Ao109 t281.length co109 : Value).ownBlock) ∧ some k_ ≠ (.slice Ao117 t286.length co117 : Value).ownBlock)) (n := t248.length) (c := co23) ?_).2.2; exact (by (with_reducible repeat (first | apply Kd.R_alloc | apply Kd.R_drewN | apply Kd.R_drew)); exact (Kd.R_mono (rF (rF (rF (Kd.R_types HO_253002.out BK290.out (by decide)) _ _) _ _) _ _) (fun _ h_ => h_.1)))); (case side4 => exact (Kd.R_reads' HO_253002.out).2.1); rintro e w139 ⟨rfl, hb⟩; refine ⟨_, rfl, ?_⟩; have n0_ := Aside0.mk (Kd.R_below (by (with_reducible repeat (first | apply Kd.R_alloc | apply Kd.R_drewN | apply Kd.R_drew)); exact (Kd.R_mono (rF (rF (rF (Kd.R_types HO_253002.out BK290.out (by decide)) _ _) _ _) _ _) (fun _ h_ => h_.1))) hb); have n1_ := Aside0.mk (Kd.R_below (by (with_reducible repeat (first | apply Kd.R_alloc | apply Kd.R_drewN | apply Kd.R_drew)); exact (Kd.R_mono (rF (rF (rF (Kd.R_types HO_259002.out BK290.out (by decide)) _ _) _ _) _ _) (fun _ h_ => h_.1))) hb); have n2_ := Aside0.mk (Kd.R_below (by (with_reducible repeat (first | apply Kd.R_alloc | apply Kd.R_drewN | apply Kd.R_drew)); exact (Kd.R_mono (rF (rF (rF (Kd.R_types HO_266002.out BK290.out (by decide)) _ _) _ _) _ _) (fun _ h_ => h_.1))) hb); have n3_ := Aside0.mk (Kd.R_below (by (with_reducible repeat (first | apply Kd.R_alloc | apply Kd.R_drewN | apply Kd.R_drew)); exact (Kd.R_mono (rF (rF (rF (Kd.R_types HO283.out BK290.out (by decide)) _ _) _ _) _ _) (fun _ h_ => h_.1))) hb); have n4_ := Aside0.mk (Kd.R_below (by (with_reducible repeat (first | apply Kd.R_alloc | apply Kd.R_drewN | apply Kd.R_drew)); exact (Kd.R_mono (rF (rF (rF (Kd.R_types HO288.out BK290.out (by decide)) _ _) _ _) _ _) (fun _ h_ => h_.1))) hb); have n5_ := Aside0.mk (blk_below (g := gb239) (o := .cells #[.int .i64 a0_0, .int .i64 a0_1, .slice A0_2 l0_2.length c0_2] 24 (0, 0)) (by (with_reducible repeat (first | refine blk_drewN ?_ _ | refine blk_drew ?_ | refine blk_alloc ?_ _)); refine blk_far ?_ NB239_290.out _; (with_reducible repeat (first | refine blk_drewN ?_ _ | refine blk_drew ?_ | refine blk_alloc ?_ _)); refine blk_far ?_ NB239_290.out _; (with_reducible repeat (first | refine blk_drewN ?_ _ | refine blk_drew ?_ | refine blk_alloc ?_ _)); refine blk_far ?_ NB239_290.out _; (with_reducible repeat (first | refine blk_drewN ?_ _ | refine blk_drew ?_ | refine blk_alloc ?_ _)); exact BK239.out) hb); have n6_ := Aside0.mk (blk_below (g := gb252) (o := .cells #[.int .i64 t246, .int .i64 t247, .slice Ao23 t248.length co23] 29 (0, 0)) (by (with_reducible repeat (first | refine blk_drewN ?_ _ | refine blk_drew ?_ | refine blk_alloc ?_ _)); refine blk_far ?_ NB252_290.out _; (with_reducible repeat (first | refine blk_drewN ?_ _ | refine blk_drew ?_ | refine blk_alloc ?_ _)); refine blk_far ?_ NB252_290.out _; (with_reducible repeat (first | refine blk_drewN ?_ _ | refine blk_drew ?_ | refine blk_alloc ?_ _)); refine blk_far ?_ NB252_290.out _; (with_reducible repeat (first | refine blk_drewN ?_ _ | refine blk_drew ?_ | refine blk_alloc ?_ _)); exact BK252.out) hb); have n7_ := Aside0.mk (blk_below (g := gb258) (o := .cells #[.int .i64 t253, .int .i64 t254, .slice Ao30 t274.length co30] 29 (0, 0)) (by (with_reducible repeat (first | refine blk_drewN ?_ _ | refine blk_drew ?_ | refine blk_alloc ?_ _)); refine blk_far ?_ NB258_290.out _; (with_reducible repeat (first | refine blk_drewN ?_ _ | refine blk_drew ?_ | refine blk_alloc ?_ _)); refine blk_far ?_ NB258_290.out _; (with_reducible repeat (first | refine blk_drewN ?_ _ | refine blk_drew ?_ | refine blk_alloc ?_ _)); refine blk_far ?_ NB258_290.out _; (with_reducible repeat (first | refine blk_drewN ?_ _ | refine blk_drew ?_ | refine blk_alloc ?_ _)); exact BK258.out) hb); have n8_ := Aside0.mk (blk_below (g := gb265) (o := .cells #[.int .i64 t259, .int .i64 t260, .slice Ao37 t261.length co37] 29 (0, 0)) (by (with_reducible repeat (first | refine blk_drewN ?_ _ | refine blk_drew ?_ | refine blk_alloc ?_ _)); refine blk_far ?_ NB265_290.out _; (with_reducible repeat (first | refine blk_drewN ?_ _ | refine blk_drew ?_ | refine blk_alloc ?_ _)); refine blk_far ?_ NB265_290.out _; (with_reducible repeat (first | refine blk_drewN ?_ _ | refine blk_drew ?_ | refine blk_alloc ?_ _)); refine blk_far ?_ NB265_290.out _; (with_reducible repeat (first | refine blk_drewN ?_ _ | refine blk_drew ?_ | refine blk_alloc ?_ _)); exact BK265.out) hb); have n9_ := Aside0.mk (blk_below (g := gb290) (o := .cells #[.int .i64 t284, .int .i64 t285, .slice Ao117 t286.length co117] 29 (0, 0)) (by (with_reducible repeat (first | refine blk_drewN ?_ _ | refine blk_drew ?_ | refine blk_alloc ?_ _)); refine blk_put (cs := #[.int .i64 t284, .int .i64 t285, .slice none 0 0]) ?_ 2 _ rfl; (with_reducible repeat (first | refine blk_drewN ?_ _ | refine blk_drew ?_ | refine blk_alloc ?_ _)); refine blk_put (cs := #[.int .i64 t284, .int .i64 0, .slice none 0 0]) ?_ 1 _ rfl; (with_reducible repeat (first | refine blk_drewN ?_ _ | refine blk_drew ?_ | refine blk_alloc ?_ _)); refine blk_put (cs := #[.int .i64 0, .int .i64 0, .slice none 0 0]) ?_ 0 _ rfl; (with_reducible repeat (first | refine blk_drewN ?_ _ | refine blk_drew ?_ | refine blk_alloc ?_ _)); exact BK290.out) hb); have n10_ := Aside0.mk (below_step (by repeat (first | (with_reducible first | exact HB.out | apply ba | apply bn | apply bd | refine bt ?_ GE239.out | refine bt ?_ GE252.out | refine bt ?_ GE258.out | refine bt ?_ GE265.out | refine bt ?_ GE290.out) | exact HB.out)) hb); clear HO_253002; clear HO_259002; clear HO_266002; clear HO283; clear HO288; clear BK239; clear BK252; clear BK258; clear BK265; clear BK290; clear HB; have HO_253002 := n0_; have HO_259002 := n1_; have HO_266002 := n2_; have HO283 := n3_; have HO288 := n4_; have BK239 := n5_; have BK252 := n6_; have BK258 := n7_; have BK265 := n8_; have BK290 := n9_; have HB := n10_; clear n0_ n1_ n2_ n3_ n4_ n5_ n6_ n7_ n8_ n9_ n10_; (try clear hb); (try clear hb2); (try clear hk); (try clear hi)))
             go_meet
             case rel => exact ⟨_, (true), (by first | rfl | (simp; done) | (simp [*]; done)), H', ⟨by have := HJ11.out; have := HJ60.out; first | omega | exact Nat.le_refl _⟩, ⟨by (try simp only [hl259002_60]); (with_reducible repeat (first | apply Kd.R_alloc | apply Kd.R_drewN | apply Kd.R_drew)); exact Kd.R_mono HO_253002.out (fun _ hk => ⟨hk.1.1.1, ⟨hk.1.1.2, hk.2⟩⟩)⟩, ⟨by (try simp only [hl259002_60]); (with_reducible repeat (first | apply Kd.R_alloc | apply Kd.R_drewN | apply Kd.R_drew)); exact Kd.R_mono HO_259002.out (fun _ hk => ⟨hk.1.1.1, ⟨hk.1.1.2, hk.2⟩⟩)⟩, ⟨by (try simp only [hl259002_60]); (with_reducible repeat (first | apply Kd.R_alloc | apply Kd.R_drewN | apply Kd.R_drew)); exact Kd.R_mono HO_266002.out (fun _ hk => ⟨hk.1.1.1, ⟨hk.1.1.2, hk.2⟩⟩)⟩, ⟨by (try simp only [hl259002_60]); (with_reducible repeat (first | apply Kd.R_alloc | apply Kd.R_drewN | apply Kd.R_drew)); exact Kd.R_mono HO288.out (fun _ hk => ⟨hk.1.1.1.2, ⟨hk.1.1.2, hk.1.2⟩⟩)⟩, ⟨by (try simp only [hl259002_60]); (with_reducible repeat (first | refine blk_drewN ?_ _ | refine blk_drew ?_ | refine blk_alloc ?_ _)); exact BK239.out⟩, ⟨by (try simp only [hl259002_60]); (with_reducible repeat (first | refine blk_drewN ?_ _ | refine blk_drew ?_ | refine blk_alloc ?_ _)); exact BK252.out⟩, ⟨by (try simp only [hl259002_60]); (with_reducible repeat (first | refine blk_drewN ?_ _ | refine blk_drew ?_ | refine blk_alloc ?_ _)); exact BK258.out⟩, ⟨by (try simp only [hl259002_60]); (with_reducible repeat (first | refine blk_drewN ?_ _ | refine blk_drew ?_ | refine blk_alloc ?_ _)); exact BK265.out⟩, ⟨by (try simp only [hl259002_60]); (with_reducible repeat (first | refine blk_drewN ?_ _ | refine blk_drew ?_ | refine blk_alloc ?_ _)); exact BK290.out⟩, ⟨by repeat (first | (with_reducible first | exact HB.out | apply ba | apply bn | apply bd | refine bt ?_ GE239.out | refine bt ?_ GE252.out | refine bt ?_ GE258.out | refine bt ?_ GE265.out | refine bt ?_ GE290.out) | exact HB.out)⟩⟩
           case rest =>
            clear HC97
            try clear c1
            try clear c2
            try clear p2
            try clear c3
            try clear c4
            try clear c4b0
            try clear c5
            try clear c6
            try clear c7
            try clear c8
            try clear c9
            try clear c10
            try clear c11
            try clear c12
            try clear c13
            try clear c17
            try clear c19
            try clear c21
            try clear c26
            try clear c27
            try clear c28
            try clear c29
            try clear c33
            try clear c34
            try clear c35
            try clear c39
            try clear c40
            try clear c41
            try clear c42
            try clear c44
            try clear c45
            try clear c48
            try clear c49
            try clear c50
            try clear c52
            try clear c53
            try clear c56
            try clear c59
            try clear c66
            try clear c67
            try clear c68
            try clear c71
            try clear c71b0
            try clear c73
            try clear c74
            try clear c75
            try clear c76
            try clear c78
            try clear c79
            try clear c82
            try clear c83
            try clear c84
            try clear c86
            try clear c87
            try clear c90
            try clear c93
            try clear c93b0
            try clear c94
            try clear c94b0
            try clear c94b1
            try clear c98
            try clear c99
            try clear c100
            try clear c105
            try clear c106
            try clear c112
            try clear c113
            try clear c114
            try clear c115
            try clear c119
            try clear c120
            try clear c121
            try clear c122
            try clear c123
            try clear c125
            try clear c126
            try clear c127
            try clear c130
            try clear c131
            try clear c132
            try clear c133
            try clear c135
            try clear c136
            try clear c137
            try clear hcz101_0
            try clear hcz101_1
            try clear hcz101_2
            try clear hcz103_0
            try clear hcz103_1
            try clear hcz103_2
            try clear hcz107_0
            try clear hcz107_1
            try clear hcz107_2
            try clear hcz116_0
            try clear hcz116_1
            try clear hcz116_2
            try clear hcz124_0
            try clear hcz124_1
            try clear hcz124_2
            try clear hcz128_0
            try clear hcz128_1
            try clear hcz128_2
            try clear hcz134_0
            try clear hcz134_1
            try clear hcz134_2
            try clear hcz138_0
            try clear hcz138_1
            try clear hcz138_2
            try clear hcz14_0
            try clear hcz14_1
            try clear hcz14_2
            try clear hcz16_0
            try clear hcz16_1
            try clear hcz16_2
            try clear hcz22_0
            try clear hcz22_1
            try clear hcz22_2
            try clear hcz24_0
            try clear hcz24_1
            try clear hcz24_2
            try clear hcz29_0
            try clear hcz29_1
            try clear hcz29_2
            try clear hcz36_0
            try clear hcz36_1
            try clear hcz36_2
            try clear hcz43_0
            try clear hcz43_1
            try clear hcz43_2
            try clear hcz46_0
            try clear hcz46_1
            try clear hcz46_2
            try clear hcz51_0
            try clear hcz51_1
            try clear hcz51_2
            try clear hcz54_0
            try clear hcz54_1
            try clear hcz54_2
            try clear hcz69_0
            try clear hcz69_1
            try clear hcz69_2
            try clear hcz6_0
            try clear hcz6_1
            try clear hcz6_2
            try clear hcz77_0
            try clear hcz77_1
            try clear hcz77_2
            try clear hcz80_0
            try clear hcz80_1
            try clear hcz80_2
            try clear hcz85_0
            try clear hcz85_1
            try clear hcz85_2
            try clear hcz88_0
            try clear hcz88_1
            try clear hcz88_2
            try clear hfz101_0
            try clear hfz101_1
            try clear hfz101_2
            try clear hfz103_0
            try clear hfz103_1
            try clear hfz103_2
            try clear hfz107_0
            try clear hfz107_1
            try clear hfz107_2
            try clear hfz116_0
            try clear hfz116_1
            try clear hfz116_2
            try clear hfz124_0
            try clear hfz124_1
            try clear hfz124_2
            try clear hfz128_0
            try clear hfz128_1
            try clear hfz128_2
            try clear hfz134_0
            try clear hfz134_1
            try clear hfz134_2
            try clear hfz138_0
            try clear hfz138_1
            try clear hfz138_2
            try clear hfz14_0
            try clear hfz14_1
            try clear hfz14_2
            try clear hfz16_0
            try clear hfz16_1
            try clear hfz16_2
            try clear hfz22_0
            try clear hfz22_1
            try clear hfz22_2
            try clear hfz24_0
            try clear hfz24_1
            try clear hfz24_2
            try clear hfz29_0
            try clear hfz29_1
            try clear hfz29_2
            try clear hfz36_0
            try clear hfz36_1
            try clear hfz36_2
            try clear hfz43_0
            try clear hfz43_1
            try clear hfz43_2
            try clear hfz46_0
            try clear hfz46_1
            try clear hfz46_2
            try clear hfz51_0
            try clear hfz51_1
            try clear hfz51_2
            try clear hfz54_0
            try clear hfz54_1
            try clear hfz54_2
            try clear hfz69_0
            try clear hfz69_1
            try clear hfz69_2
            try clear hfz6_0
            try clear hfz6_1
            try clear hfz6_2
            try clear hfz77_0
            try clear hfz77_1
            try clear hfz77_2
            try clear hfz80_0
            try clear hfz80_1
            try clear hfz80_2
            try clear hfz85_0
            try clear hfz85_1
            try clear hfz85_2
            try clear hfz88_0
            try clear hfz88_1
            try clear hfz88_2
            try clear p2
            obtain ⟨kq, x92_96, rfl, HA, HJ96, HO_253002, HO_259002, HO_266002, HO_291002, BK239, BK252, BK258, BK265, BK290, HB⟩ := hcut
            have hl266002_96 := (Kd.R_reads' HO_266002.out).1
            rw [hl266002_96] at HO_266002
            (try simp only [hl266002_96])
            (try simp only [hl266002_96] at BK239)
            (try simp only [hl266002_96] at BK252)
            (try simp only [hl266002_96] at BK258)
            (try simp only [hl266002_96] at BK265)
            (try simp only [hl266002_96] at BK290)
            (try simp only [hl266002_96] at HO_253002)
            (try simp only [hl266002_96] at HO_259002)
            (try simp only [hl266002_96] at HO_291002)
            cases kq with
            | zero => exact absurd HA.out (by simp [laws_FnExactTableLeave.j2])
            | succ kj96 =>
             have H := HA.out
             clear HA
             simp only [laws_FnExactTableLeave.j2] at H
             by_cases c140 : x92_96 = true
             ·subst c140
              have H1 : (some false) = some r := by rw [if_pos rfl] at H; exact H
              clear H
              have H := H1
              clear H1
              exact absurd (Option.some.inj H) (by rw [HTR.out]; decide)
             ·replace c140 := Bool.eq_false_iff.mpr c140
              subst c140
              have H1 : ((laws_heldTable.f kj96 t259 t260 t277 1).bind fun t292 => (if t292 < 0 then (some false) else (if t292 = t276 then (some true) else (some false)))) = some r := by rw [if_neg (show ¬ (false = true) by decide)] at H; exact H
              clear H
              have H := H1
              clear H1
              replace H := Option.bind_eq_some_iff.mp H
              obtain ⟨t292, A1410, H⟩ := H
              replace H : (if t292 < 0 then (some false) else (if t292 = t276 then (some true) else (some false))) = some r := H
              have A141 := Aside0.mk A1410
              clear A1410
              by_cases c142 : t292 < 0
              ·rw [if_pos c142] at H
               have c142b0 : decide (t292 < 0) = true := decide_eq_true c142
               clear c142
               exact absurd (Option.some.inj H) (by rw [HTR.out]; decide)
              ·rw [if_neg c142] at H
               have c142b0 : decide (t292 < 0) = false := decide_eq_false c142
               clear c142
               by_cases c143 : t292 = t276
               ·rw [if_pos c143] at H
                have c143b0 : (t292 == t276) = true := beq_iff_eq.mpr c143
                have c143b1 : (t292 != t276) = false := bne_eq_false_iff_eq.mpr c143
                clear c143
                obtain rfl := Option.some.inj H
                have hnb144 := NB265_239.out
                have hnc144 := NB239_265.out
                have hnb145 := NB265_252.out
                have hnc145 := NB252_265.out
                have hnb146 := NB265_258.out
                have hnc146 := NB258_265.out
                have hnb147 := NB265_290.out
                have hnc147 := NB290_265.out
                have hcz148_0 : wc.cell? ⟨gb265, 0, none⟩ = some (.int .i64 t259) := cl BK265.out 0 rfl
                have hcz148_1 : wc.cell? ⟨gb265, 1, none⟩ = some (.int .i64 t260) := cl BK265.out 1 rfl
                have hcz148_2 : wc.cell? ⟨gb265, 2, none⟩ = some (.slice Ao37 t277.length co37) := cl BK265.out 2 rfl
                have hfz148_0 := fz BK265.out 0
                have hfz148_1 := fz BK265.out 1
                have hfz148_2 := fz BK265.out 2
                go_wp2_with (first | ((with_reducible refine gate_callee (f := 27) rfl ?_); refine goesL_ (some 95) rfl rfl Try.func27 (by kernel_rfl) rfl #[.agg #[.int .i64 t259, .int .i64 t260, .slice Ao37 t277.length co37], .int .i64 1] rfl (by (try simp only [List.map_toArray, List.map_cons, List.map_nil]); first | done | rfl | (simp only [List.length_drop, List.length_take]; rfl)) ?_; (with_reducible refine (laws_heldTable.calls kj96 t259 t260 _ _ t277 1 t292 _ ?side1 ?side2 A141.out).mono ?_); (case side1 => repeat (first | exact (Kd.R_reads' HO_266002.out).2.2 | (with_reducible refine Kd.C_alloc ?_ _) | (with_reducible refine Kd.C_drewN ?_ _) | (with_reducible refine Kd.C_drew ?_))); (case side2 => exact (Kd.R_reads' HO_266002.out).2.1); rintro e w149 ⟨rfl, hb⟩; refine ⟨_, rfl, ?_⟩; have n0_ := Aside0.mk (Kd.R_below (by (with_reducible repeat (first | apply Kd.R_alloc | apply Kd.R_drewN | apply Kd.R_drew)); exact HO_253002.out) hb); have n1_ := Aside0.mk (Kd.R_below (by (with_reducible repeat (first | apply Kd.R_alloc | apply Kd.R_drewN | apply Kd.R_drew)); exact HO_259002.out) hb); have n2_ := Aside0.mk (Kd.R_below (by (with_reducible repeat (first | apply Kd.R_alloc | apply Kd.R_drewN | apply Kd.R_drew)); exact HO_266002.out) hb); have n3_ := Aside0.mk (Kd.R_below (by (with_reducible repeat (first | apply Kd.R_alloc | apply Kd.R_drewN | apply Kd.R_drew)); exact HO_291002.out) hb); have n4_ := Aside0.mk (blk_below (g := gb239) (o := .cells #[.int .i64 a0_0, .int .i64 a0_1, .slice A0_2 l0_2.length c0_2] 24 (0, 0)) (by (with_reducible repeat (first | refine blk_drewN ?_ _ | refine blk_drew ?_ | refine blk_alloc ?_ _)); exact BK239.out) hb); have n5_ := Aside0.mk (blk_below (g := gb252) (o := .cells #[.int .i64 t246, .int .i64 t247, .slice Ao23 t248.length co23] 29 (0, 0)) (by (with_reducible repeat (first | refine blk_drewN ?_ _ | refine blk_drew ?_ | refine blk_alloc ?_ _)); exact BK252.out) hb); have n6_ := Aside0.mk (blk_below (g := gb258) (o := .cells #[.int .i64 t253, .int .i64 t254, .slice Ao30 t274.length co30] 29 (0, 0)) (by (with_reducible repeat (first | refine blk_drewN ?_ _ | refine blk_drew ?_ | refine blk_alloc ?_ _)); exact BK258.out) hb); have n7_ := Aside0.mk (blk_below (g := gb265) (o := .cells #[.int .i64 t259, .int .i64 t260, .slice Ao37 t277.length co37] 29 (0, 0)) (by (with_reducible repeat (first | refine blk_drewN ?_ _ | refine blk_drew ?_ | refine blk_alloc ?_ _)); exact BK265.out) hb); have n8_ := Aside0.mk (blk_below (g := gb290) (o := .cells #[.int .i64 t284, .int .i64 t285, .slice Ao117 t286.length co117] 29 (0, 0)) (by (with_reducible repeat (first | refine blk_drewN ?_ _ | refine blk_drew ?_ | refine blk_alloc ?_ _)); exact BK290.out) hb); have n9_ := Aside0.mk (below_step (by repeat (first | (with_reducible first | exact HB.out | apply ba | apply bn | apply bd | refine bt ?_ GE239.out | refine bt ?_ GE252.out | refine bt ?_ GE258.out | refine bt ?_ GE265.out | refine bt ?_ GE290.out) | exact HB.out)) hb); clear HO_253002; clear HO_259002; clear HO_266002; clear HO_291002; clear BK239; clear BK252; clear BK258; clear BK265; clear BK290; clear HB; have HO_253002 := n0_; have HO_259002 := n1_; have HO_266002 := n2_; have HO_291002 := n3_; have BK239 := n4_; have BK252 := n5_; have BK258 := n6_; have BK265 := n7_; have BK290 := n8_; have HB := n9_; clear n0_ n1_ n2_ n3_ n4_ n5_ n6_ n7_ n8_ n9_; (try clear hb); (try clear hb2); (try clear hk); (try clear hi)))
                go_ret
                exact ⟨by first | rfl | (simp [errW_none, errW_some] <;> rfl) | (simp [*, errW_none, errW_some] <;> rfl), by repeat (first | (with_reducible first | exact HB.out | apply ba | apply bn | apply bd | refine bt ?_ GE239.out | refine bt ?_ GE252.out | refine bt ?_ GE258.out | refine bt ?_ GE265.out | refine bt ?_ GE290.out) | exact HB.out)⟩
               ·rw [if_neg c143] at H
                have c143b0 : (t292 == t276) = false := beq_eq_false_iff_ne.mpr c143
                have c143b1 : (t292 != t276) = true := bne_iff_ne.mpr c143
                exact absurd (Option.some.inj H) (by rw [HTR.out]; decide)
          ·rw [if_neg c94] at H
           have c94b0 : (t278 == t276) = false := beq_eq_false_iff_ne.mpr c94
           have c94b1 : (t278 != t276) = true := bne_iff_ne.mpr c94
           exact absurd (Option.some.inj H) (by rw [HTR.out]; decide)
     ·replace c59 := Bool.eq_false_iff.mpr c59
      subst c59
      have H1 : (some false) = some r := by rw [if_neg (show ¬ (false = true) by decide)] at H; exact H
      clear H
      have H := H1
      clear H1
      exact absurd (Option.some.inj H) (by rw [HTR.out]; decide)

end Go.Proofs.Ytekhlpkodgjdeaa.PFnExactTableLeave
