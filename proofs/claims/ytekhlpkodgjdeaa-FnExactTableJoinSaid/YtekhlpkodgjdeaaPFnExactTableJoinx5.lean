/- Printed by a program of this session over the kit's print, for function values too. Lean checks it. -/
import Derived.Test.YtekhlpkodgjdeaaPFnExactTableJoinx0
import Derived.Test.YtekhlpkodgjdeaaPFnExactTableJoinx1
import Derived.Test.YtekhlpkodgjdeaaPFnExactTableJoinx3
import Derived.Test.YtekhlpkodgjdeaaPFnExactTableJoinx4
namespace Go.Proofs.Ytekhlpkodgjdeaa.PFnExactTableJoin
open Go.RowKit Go.Proofs.YtekhlpkodgjdeaaH Go.Proofs.YtekhlpkodgjdeaaW.PrintWords Go.Proofs.YtekhlpkodgjdeaaW.PrintLast Go.Proofs.YtekhlpkodgjdeaaW.PrintMore
attribute [local go_sem] max2_int min2_int max_two min_two max_three min_three max_four min_four   -- for this text's walks alone
set_option linter.unusedVariables false
set_option linter.unusedSimpArgs false

/-! ### laws_FnExactTableJoin: function 5 -/
mutual
def laws_FnExactTableJoin.j0 : Nat → Int → Int → Int → Bool → Int → Int → List (S72) → Int → Int → List (S40) → Int → Int → List (S40) → Int → Int → List (S40) → Option (Bool)
 | 0, _, _, _, _, _, _, _, _, _, _, _, _, _, _, _, _ => none
 | k + 1, x1, x7, x10, x44, x234000, x234001, x234002, x247000, x247001, x247002, x253000, x253001, x253002, x260000, x260001, x260002 => if x44 = true then (some false) else ((laws_toTable.f k x234000 x234001 x234002).bind fun bt261 => ((laws_eqTable.f k x253000 x253001 x253002 bt261.1 bt261.2.1 bt261.2.2).bind fun t266 => (if t266 = true then ((laws_markTable.f k x253000 x253001 x253002 1).bind fun bt267 => (if bt267.1 < 0 then (laws_FnExactTableJoin.j1 k x1 x7 true x234000 x234001 x234002 x247000 x247001 x247002 x260000 x260001 x260002) else ((laws_eqTable.f k x260000 x260001 x260002 x247000 x247001 x247002).bind fun t269 => (if t269 = true then (laws_FnExactTableJoin.j1 k x1 x7 (x10 != x7) x234000 x234001 x234002 x247000 x247001 x247002 x260000 x260001 x260002) else (laws_FnExactTableJoin.j1 k x1 x7 true x234000 x234001 x234002 x247000 x247001 x247002 x260000 x260001 x260002))))) else (some false))))
def laws_FnExactTableJoin.j1 : Nat → Int → Int → Bool → Int → Int → List (S72) → Int → Int → List (S40) → Int → Int → List (S40) → Option (Bool)
 | 0, _, _, _, _, _, _, _, _, _, _, _, _ => none
 | k + 1, x1, x7, x65, x234000, x234001, x234002, x247000, x247001, x247002, x260000, x260001, x260002 => if x65 = true then (some false) else ((laws_markTable.f k x260000 x260001 x260002 1).bind fun bt270 => ((laws_heldTable.f k x260000 x260001 bt270.2 1).bind fun t272 => (if t272 < 0 then (some false) else (if t272 = bt270.1 then ((laws_toTable.f k x234000 x234001 x234002).bind fun bt273 => ((impl_TableJoin.f k bt273.1 bt273.2.1 bt273.2.2 x1).bind fun bt278 => ((laws_eqTable.f k bt278.1 bt278.2.1 bt278.2.2.1 x247000 x247001 x247002).bind fun t285 => (if t285 = true then (laws_FnExactTableJoin.j2 k bt270.1 (bt278.2.2.2 != x7) x260000 x260001 bt270.2) else (laws_FnExactTableJoin.j2 k bt270.1 true x260000 x260001 bt270.2))))) else (some false)))))
def laws_FnExactTableJoin.j2 : Nat → Int → Bool → Int → Int → List (S40) → Option (Bool)
 | 0, _, _, _, _, _ => none
 | k + 1, x12, x92, x260000, x260001, x260002 => if x92 = true then (some false) else ((laws_heldTable.f k x260000 x260001 x260002 1).bind fun t286 => (if t286 < 0 then (some false) else (if t286 = x12 then (some true) else (some false))))
end
def laws_FnExactTableJoin.f (k : Nat) (a0_0 : Int) (a0_1 : Int) (l0_2 : List (S72)) (a1 : Int) : Option (Bool) := (laws_szTable.f a0_0 a0_1 l0_2 1048576).bind fun t234 => (if t234 < 0 then (some true) else ((laws_toTable.f k a0_0 a0_1 l0_2).bind fun bt235 => ((spec_TableJoin.f k bt235.1 bt235.2.1 bt235.2.2 a1).bind fun bt240 => ((laws_toTable.f k a0_0 a0_1 l0_2).bind fun bt247 => ((impl_TableJoin.f k bt247.1 bt247.2.1 bt247.2.2 a1).bind fun bt253 => ((laws_eqTable.f k bt253.1 bt253.2.1 bt253.2.2.1 bt240.1 bt240.2.1 bt240.2.2.1).bind fun t260 => (if t260 = true then (laws_FnExactTableJoin.j0 k a1 bt240.2.2.2 bt253.2.2.2 (bt253.2.2.2 != bt240.2.2.2) a0_0 a0_1 l0_2 bt240.1 bt240.2.1 bt240.2.2.1 bt247.1 bt247.2.1 bt247.2.2 bt253.1 bt253.2.1 bt253.2.2.1) else (laws_FnExactTableJoin.j0 k a1 bt240.2.2.2 bt253.2.2.2 true a0_0 a0_1 l0_2 bt240.1 bt240.2.1 bt240.2.2.1 bt247.1 bt247.2.1 bt247.2.2 bt253.1 bt253.2.1 bt253.2.2.1))))))))
theorem laws_FnExactTableJoin.mono_l : ∀ k, (∀ y0 y1 y2 y3 y4 y5 y6 y7 y8 y9 y10 y11 y12 y13 y14 y15, LeO (laws_FnExactTableJoin.j0 k y0 y1 y2 y3 y4 y5 y6 y7 y8 y9 y10 y11 y12 y13 y14 y15) (laws_FnExactTableJoin.j0 (k + 1) y0 y1 y2 y3 y4 y5 y6 y7 y8 y9 y10 y11 y12 y13 y14 y15)) ∧ (∀ y0 y1 y2 y3 y4 y5 y6 y7 y8 y9 y10 y11, LeO (laws_FnExactTableJoin.j1 k y0 y1 y2 y3 y4 y5 y6 y7 y8 y9 y10 y11) (laws_FnExactTableJoin.j1 (k + 1) y0 y1 y2 y3 y4 y5 y6 y7 y8 y9 y10 y11)) ∧ (∀ y0 y1 y2 y3 y4, LeO (laws_FnExactTableJoin.j2 k y0 y1 y2 y3 y4) (laws_FnExactTableJoin.j2 (k + 1) y0 y1 y2 y3 y4))
 | 0 => ⟨fun _ _ _ _ _ _ _ _ _ _ _ _ _ _ _ _ r h => by simp [laws_FnExactTableJoin.j0] at h, fun _ _ _ _ _ _ _ _ _ _ _ _ r h => by simp [laws_FnExactTableJoin.j1] at h, fun _ _ _ _ _ r h => by simp [laws_FnExactTableJoin.j2] at h⟩
 | k + 1 => by
  obtain ⟨ih0, ih1, ih2⟩ := laws_FnExactTableJoin.mono_l k
  refine ⟨?_, ?_, ?_⟩
  ·intro y0 y1 y2 y3 y4 y5 y6 y7 y8 y9 y10 y11 y12 y13 y14 y15
   unfold laws_FnExactTableJoin.j0
   repeat' first
   | (with_reducible exact ih0 _ _ _ _ _ _ _ _ _ _ _ _ _ _ _ _)
   | (with_reducible exact ih1 _ _ _ _ _ _ _ _ _ _ _ _)
   | (with_reducible exact ih2 _ _ _ _ _)
   | (with_reducible exact impl_TableJoin.mono _ _ _ _ _)
   | (with_reducible exact laws_eqTable.mono _ _ _ _ _ _ _)
   | (with_reducible exact laws_heldTable.mono _ _ _ _ _)
   | (with_reducible exact laws_markTable.mono _ _ _ _ _)
   | (with_reducible exact laws_toTable.mono _ _ _ _)
   | (with_reducible exact spec_TableJoin.mono _ _ _ _ _)
   | (with_reducible exact LeO.refl _)
   | (with_reducible exact LeO.none _)
   | (with_reducible refine LeO.ite ?_ ?_)
   | (with_reducible refine LeO.bind ?_ (fun _ => ?_))
   | exact ih0 _ _ _ _ _ _ _ _ _ _ _ _ _ _ _ _
   | exact ih1 _ _ _ _ _ _ _ _ _ _ _ _
   | exact ih2 _ _ _ _ _
   | exact impl_TableJoin.mono _ _ _ _ _
   | exact laws_eqTable.mono _ _ _ _ _ _ _
   | exact laws_heldTable.mono _ _ _ _ _
   | exact laws_markTable.mono _ _ _ _ _
   | exact laws_toTable.mono _ _ _ _
   | exact spec_TableJoin.mono _ _ _ _ _
   | exact LeO.none _
   | refine LeO.ite ?_ ?_
   | refine LeO.bind ?_ (fun _ => ?_)
  ·intro y0 y1 y2 y3 y4 y5 y6 y7 y8 y9 y10 y11
   unfold laws_FnExactTableJoin.j1
   repeat' first
   | (with_reducible exact ih0 _ _ _ _ _ _ _ _ _ _ _ _ _ _ _ _)
   | (with_reducible exact ih1 _ _ _ _ _ _ _ _ _ _ _ _)
   | (with_reducible exact ih2 _ _ _ _ _)
   | (with_reducible exact impl_TableJoin.mono _ _ _ _ _)
   | (with_reducible exact laws_eqTable.mono _ _ _ _ _ _ _)
   | (with_reducible exact laws_heldTable.mono _ _ _ _ _)
   | (with_reducible exact laws_markTable.mono _ _ _ _ _)
   | (with_reducible exact laws_toTable.mono _ _ _ _)
   | (with_reducible exact spec_TableJoin.mono _ _ _ _ _)
   | (with_reducible exact LeO.refl _)
   | (with_reducible exact LeO.none _)
   | (with_reducible refine LeO.ite ?_ ?_)
   | (with_reducible refine LeO.bind ?_ (fun _ => ?_))
   | exact ih0 _ _ _ _ _ _ _ _ _ _ _ _ _ _ _ _
   | exact ih1 _ _ _ _ _ _ _ _ _ _ _ _
   | exact ih2 _ _ _ _ _
   | exact impl_TableJoin.mono _ _ _ _ _
   | exact laws_eqTable.mono _ _ _ _ _ _ _
   | exact laws_heldTable.mono _ _ _ _ _
   | exact laws_markTable.mono _ _ _ _ _
   | exact laws_toTable.mono _ _ _ _
   | exact spec_TableJoin.mono _ _ _ _ _
   | exact LeO.none _
   | refine LeO.ite ?_ ?_
   | refine LeO.bind ?_ (fun _ => ?_)
  ·intro y0 y1 y2 y3 y4
   unfold laws_FnExactTableJoin.j2
   repeat' first
   | (with_reducible exact ih0 _ _ _ _ _ _ _ _ _ _ _ _ _ _ _ _)
   | (with_reducible exact ih1 _ _ _ _ _ _ _ _ _ _ _ _)
   | (with_reducible exact ih2 _ _ _ _ _)
   | (with_reducible exact impl_TableJoin.mono _ _ _ _ _)
   | (with_reducible exact laws_eqTable.mono _ _ _ _ _ _ _)
   | (with_reducible exact laws_heldTable.mono _ _ _ _ _)
   | (with_reducible exact laws_markTable.mono _ _ _ _ _)
   | (with_reducible exact laws_toTable.mono _ _ _ _)
   | (with_reducible exact spec_TableJoin.mono _ _ _ _ _)
   | (with_reducible exact LeO.refl _)
   | (with_reducible exact LeO.none _)
   | (with_reducible refine LeO.ite ?_ ?_)
   | (with_reducible refine LeO.bind ?_ (fun _ => ?_))
   | exact ih0 _ _ _ _ _ _ _ _ _ _ _ _ _ _ _ _
   | exact ih1 _ _ _ _ _ _ _ _ _ _ _ _
   | exact ih2 _ _ _ _ _
   | exact impl_TableJoin.mono _ _ _ _ _
   | exact laws_eqTable.mono _ _ _ _ _ _ _
   | exact laws_heldTable.mono _ _ _ _ _
   | exact laws_markTable.mono _ _ _ _ _
   | exact laws_toTable.mono _ _ _ _
   | exact spec_TableJoin.mono _ _ _ _ _
   | exact LeO.none _
   | refine LeO.ite ?_ ?_
   | refine LeO.bind ?_ (fun _ => ?_)
theorem laws_FnExactTableJoin.mono : ∀ a0 a1 a2 a3 k, LeO (laws_FnExactTableJoin.f k a0 a1 a2 a3) (laws_FnExactTableJoin.f (k + 1) a0 a1 a2 a3) := by
 intro a0 a1 a2 a3 k
 obtain ⟨ih0, ih1, ih2⟩ := laws_FnExactTableJoin.mono_l k
 unfold laws_FnExactTableJoin.f
 repeat' first
   | (with_reducible exact ih0 _ _ _ _ _ _ _ _ _ _ _ _ _ _ _ _)
   | (with_reducible exact ih1 _ _ _ _ _ _ _ _ _ _ _ _)
   | (with_reducible exact ih2 _ _ _ _ _)
   | (with_reducible exact impl_TableJoin.mono _ _ _ _ _)
   | (with_reducible exact laws_eqTable.mono _ _ _ _ _ _ _)
   | (with_reducible exact laws_heldTable.mono _ _ _ _ _)
   | (with_reducible exact laws_markTable.mono _ _ _ _ _)
   | (with_reducible exact laws_toTable.mono _ _ _ _)
   | (with_reducible exact spec_TableJoin.mono _ _ _ _ _)
   | (with_reducible exact LeO.refl _)
   | (with_reducible exact LeO.none _)
   | (with_reducible refine LeO.ite ?_ ?_)
   | (with_reducible refine LeO.bind ?_ (fun _ => ?_))
   | exact ih0 _ _ _ _ _ _ _ _ _ _ _ _ _ _ _ _
   | exact ih1 _ _ _ _ _ _ _ _ _ _ _ _
   | exact ih2 _ _ _ _ _
   | exact impl_TableJoin.mono _ _ _ _ _
   | exact laws_eqTable.mono _ _ _ _ _ _ _
   | exact laws_heldTable.mono _ _ _ _ _
   | exact laws_markTable.mono _ _ _ _ _
   | exact laws_toTable.mono _ _ _ _
   | exact spec_TableJoin.mono _ _ _ _ _
   | exact LeO.none _
   | refine LeO.ite ?_ ?_
   | refine LeO.bind ?_ (fun _ => ?_)
set_option maxHeartbeats 8000000 in
set_option maxRecDepth 100000 in
theorem laws_FnExactTableJoin.calls (k : Nat) (a0_0 : Int) (a0_1 : Int) (A0_2 : Option Addr) (c0_2 : Nat) (l0_2 : List (S72)) (a1 : Int) (r : Bool) (w : World) (hr_ : r = true) (hr0_2 : Kd.C k72 w A0_2 l0_2.length l0_2) (hc0_2 : l0_2.length ≤ c0_2) (h : laws_FnExactTableJoin.f k a0_0 a0_1 l0_2 a1 = some r) :
  Calls Try.prog 5 #[.agg #[.int .i64 a0_0, .int .i64 a0_1, .slice A0_2 l0_2.length c0_2], .int .i64 a1] w fun e w' => e = .returned (.bool r) ∧ Below w.heap.size w w' := by
 have HTR := Aside0.mk hr_
 clear hr_
 have hu24 := Try.underlying24
 have hu29 := Try.underlying29
 have HR0_2 := Aside0.mk hr0_2
 have HC0_2 := Aside0.mk hc0_2
 clear hr0_2 hc0_2
 have HB := Aside0.mk (Below.refl w.heap.size w)
 have H : ((laws_szTable.f a0_0 a0_1 l0_2 1048576).bind fun t234 => (if t234 < 0 then (some true) else ((laws_toTable.f k a0_0 a0_1 l0_2).bind fun bt235 => ((spec_TableJoin.f k bt235.1 bt235.2.1 bt235.2.2 a1).bind fun bt240 => ((laws_toTable.f k a0_0 a0_1 l0_2).bind fun bt247 => ((impl_TableJoin.f k bt247.1 bt247.2.1 bt247.2.2 a1).bind fun bt253 => ((laws_eqTable.f k bt253.1 bt253.2.1 bt253.2.2.1 bt240.1 bt240.2.1 bt240.2.2.1).bind fun t260 => (if t260 = true then (laws_FnExactTableJoin.j0 k a1 bt240.2.2.2 bt253.2.2.2 (bt253.2.2.2 != bt240.2.2.2) a0_0 a0_1 l0_2 bt240.1 bt240.2.1 bt240.2.2.1 bt247.1 bt247.2.1 bt247.2.2 bt253.1 bt253.2.1 bt253.2.2.1) else (laws_FnExactTableJoin.j0 k a1 bt240.2.2.2 bt253.2.2.2 true a0_0 a0_1 l0_2 bt240.1 bt240.2.1 bt240.2.2.1 bt247.1 bt247.2.1 bt247.2.2 bt253.1 bt253.2.1 bt253.2.2.1))))))))) = some r := h
 clear h
 replace H := Option.bind_eq_some_iff.mp H
 obtain ⟨t234, A30, H⟩ := H
 replace H : (if t234 < 0 then (some true) else ((laws_toTable.f k a0_0 a0_1 l0_2).bind fun bt235 => ((spec_TableJoin.f k bt235.1 bt235.2.1 bt235.2.2 a1).bind fun bt240 => ((laws_toTable.f k a0_0 a0_1 l0_2).bind fun bt247 => ((impl_TableJoin.f k bt247.1 bt247.2.1 bt247.2.2 a1).bind fun bt253 => ((laws_eqTable.f k bt253.1 bt253.2.1 bt253.2.2.1 bt240.1 bt240.2.1 bt240.2.2.1).bind fun t260 => (if t260 = true then (laws_FnExactTableJoin.j0 k a1 bt240.2.2.2 bt253.2.2.2 (bt253.2.2.2 != bt240.2.2.2) a0_0 a0_1 l0_2 bt240.1 bt240.2.1 bt240.2.2.1 bt247.1 bt247.2.1 bt247.2.2 bt253.1 bt253.2.1 bt253.2.2.1) else (laws_FnExactTableJoin.j0 k a1 bt240.2.2.2 bt253.2.2.2 true a0_0 a0_1 l0_2 bt240.1 bt240.2.1 bt240.2.2.1 bt247.1 bt247.2.1 bt247.2.2 bt253.1 bt253.2.1 bt253.2.2.1)))))))) = some r := H
 have A3 := Aside0.mk A30
 clear A30
 by_cases c4 : t234 < 0
 ·rw [if_pos c4] at H
  have c4b0 : decide (t234 < 0) = true := decide_eq_true c4
  clear c4
  obtain rfl := Option.some.inj H
  go_enter Try.func5, Try.ntmps5
  go_wp2_with (first | ((with_reducible refine gate_dst (N := 2) rfl ?_); refine box_event ?hg (N := 2) ?hd (cs := #[.int .i64 a0_0, .int .i64 a0_1, .slice A0_2 l0_2.length c0_2]) (t := 24) ?hr ?_; (case hd => rfl); (case hg => rfl); (case hr => first | (go_simp; done) | (go_simp; rfl)); intro gb233 hg w5 hbox hb; have n0_ := Aside0.mk (below_step (by repeat (first | (with_reducible first | exact HB.out | apply ba | apply bn | apply bd) | exact HB.out)) hb); have n1_ := Aside0.mk (hbox); have n2_ := Aside0.mk ((by rw [hg]; exact (below_size (by repeat (first | (with_reducible first | exact HB.out | apply ba | apply bn | apply bd) | exact HB.out))) : w.heap.size ≤ gb233)); have n3_ := Aside0.mk ((by rw [hg]; exact (below_size (by repeat (first | (with_reducible first | exact HB.out | apply ba | apply bn | apply bd) | exact HB.out))) : w.heap.size ≤ gb233)); clear HB; have HB := n0_; have BK233 := n1_; have GW233 := n2_; have GE233 := n3_; clear n0_ n1_ n2_ n3_; clear hb hbox hg; have hcz6_0 : w5.cell? ⟨gb233, 0, none⟩ = some (.int .i64 a0_0) := cl BK233.out 0 rfl; have hcz6_1 : w5.cell? ⟨gb233, 1, none⟩ = some (.int .i64 a0_1) := cl BK233.out 1 rfl; have hcz6_2 : w5.cell? ⟨gb233, 2, none⟩ = some (.slice A0_2 l0_2.length c0_2) := cl BK233.out 2 rfl; have hfz6_0 := fz BK233.out 0; have hfz6_1 := fz BK233.out 1; have hfz6_2 := fz BK233.out 2) | ((with_reducible refine gate_callee (f := 17) rfl ?_); refine goesL_ (some 18) rfl rfl Try.func17 (by kernel_rfl) rfl #[.agg #[.int .i64 a0_0, .int .i64 a0_1, .slice A0_2 l0_2.length c0_2], .int .i64 1048576] rfl (by (try simp only [List.map_toArray, List.map_cons, List.map_nil]); first | done | rfl | (simp only [List.length_drop, List.length_take]; rfl)) ?_; (with_reducible refine (laws_szTable.calls a0_0 a0_1 _ _ l0_2 1048576 t234 _ ?side1 ?side2 A3.out).mono ?_); (case side1 => repeat (first | exact (Kd.C_below HR0_2.out HB.out) | (with_reducible refine Kd.C_alloc ?_ _) | (with_reducible refine Kd.C_drewN ?_ _) | (with_reducible refine Kd.C_drew ?_))); (case side2 => exact HC0_2.out); rintro e w7 ⟨rfl, hb⟩; refine ⟨_, rfl, ?_⟩; have n0_ := Aside0.mk (blk_below (g := gb233) (o := .cells #[.int .i64 a0_0, .int .i64 a0_1, .slice A0_2 l0_2.length c0_2] 24 (0, 0)) (by (with_reducible repeat (first | refine blk_drewN ?_ _ | refine blk_drew ?_ | refine blk_alloc ?_ _)); exact BK233.out) hb); have n1_ := Aside0.mk (below_step (by repeat (first | (with_reducible first | exact HB.out | apply ba | apply bn | apply bd | refine bt ?_ GE233.out) | exact HB.out)) hb); clear BK233; clear HB; have BK233 := n0_; have HB := n1_; clear n0_ n1_; (try clear hb); (try clear hb2); (try clear hk); (try clear hi)))
  go_ret
  exact ⟨by first | rfl | (simp [errW_none, errW_some] <;> rfl) | (simp [*, errW_none, errW_some] <;> rfl), by repeat (first | (with_reducible first | exact HB.out | apply ba | apply bn | apply bd | refine bt ?_ GE233.out) | exact HB.out)⟩
 ·rw [if_neg c4] at H
  have c4b0 : decide (t234 < 0) = false := decide_eq_false c4
  clear c4
  replace H := Option.bind_eq_some_iff.mp H
  obtain ⟨⟨t235, t236, t237⟩, A80, H⟩ := H
  replace H : ((spec_TableJoin.f k t235 t236 t237 a1).bind fun bt240 => ((laws_toTable.f k a0_0 a0_1 l0_2).bind fun bt247 => ((impl_TableJoin.f k bt247.1 bt247.2.1 bt247.2.2 a1).bind fun bt253 => ((laws_eqTable.f k bt253.1 bt253.2.1 bt253.2.2.1 bt240.1 bt240.2.1 bt240.2.2.1).bind fun t260 => (if t260 = true then (laws_FnExactTableJoin.j0 k a1 bt240.2.2.2 bt253.2.2.2 (bt253.2.2.2 != bt240.2.2.2) a0_0 a0_1 l0_2 bt240.1 bt240.2.1 bt240.2.2.1 bt247.1 bt247.2.1 bt247.2.2 bt253.1 bt253.2.1 bt253.2.2.1) else (laws_FnExactTableJoin.j0 k a1 bt240.2.2.2 bt253.2.2.2 true a0_0 a0_1 l0_2 bt240.1 bt240.2.1 bt240.2.2.1 bt247.1 bt247.2.1 bt247.2.2 bt253.1 bt253.2.1 bt253.2.2.1)))))) = some r := H
  have A8 := Aside0.mk A80
  clear A80
  replace H := Option.bind_eq_some_iff.mp H
  obtain ⟨⟨t240, t241, t242, t245⟩, A90, H⟩ := H
  replace H : ((laws_toTable.f k a0_0 a0_1 l0_2).bind fun bt247 => ((impl_TableJoin.f k bt247.1 bt247.2.1 bt247.2.2 a1).bind fun bt253 => ((laws_eqTable.f k bt253.1 bt253.2.1 bt253.2.2.1 t240 t241 t242).bind fun t260 => (if t260 = true then (laws_FnExactTableJoin.j0 k a1 t245 bt253.2.2.2 (bt253.2.2.2 != t245) a0_0 a0_1 l0_2 t240 t241 t242 bt247.1 bt247.2.1 bt247.2.2 bt253.1 bt253.2.1 bt253.2.2.1) else (laws_FnExactTableJoin.j0 k a1 t245 bt253.2.2.2 true a0_0 a0_1 l0_2 t240 t241 t242 bt247.1 bt247.2.1 bt247.2.2 bt253.1 bt253.2.1 bt253.2.2.1))))) = some r := H
  have A9 := Aside0.mk A90
  clear A90
  replace H := Option.bind_eq_some_iff.mp H
  obtain ⟨⟨t247, t248, t249⟩, A100, H⟩ := H
  replace H : ((impl_TableJoin.f k t247 t248 t249 a1).bind fun bt253 => ((laws_eqTable.f k bt253.1 bt253.2.1 bt253.2.2.1 t240 t241 t242).bind fun t260 => (if t260 = true then (laws_FnExactTableJoin.j0 k a1 t245 bt253.2.2.2 (bt253.2.2.2 != t245) a0_0 a0_1 l0_2 t240 t241 t242 t247 t248 t249 bt253.1 bt253.2.1 bt253.2.2.1) else (laws_FnExactTableJoin.j0 k a1 t245 bt253.2.2.2 true a0_0 a0_1 l0_2 t240 t241 t242 t247 t248 t249 bt253.1 bt253.2.1 bt253.2.2.1)))) = some r := H
  have A10 := Aside0.mk A100
  clear A100
  replace H := Option.bind_eq_some_iff.mp H
  obtain ⟨⟨t253, t254, t255, t258⟩, A110, H⟩ := H
  replace H : ((laws_eqTable.f k t253 t254 t255 t240 t241 t242).bind fun t260 => (if t260 = true then (laws_FnExactTableJoin.j0 k a1 t245 t258 (t258 != t245) a0_0 a0_1 l0_2 t240 t241 t242 t247 t248 t249 t253 t254 t255) else (laws_FnExactTableJoin.j0 k a1 t245 t258 true a0_0 a0_1 l0_2 t240 t241 t242 t247 t248 t249 t253 t254 t255))) = some r := H
  have A11 := Aside0.mk A110
  clear A110
  have HC12 := Aside0.mk H
  clear H
  go_enter Try.func5, Try.ntmps5
  go_upto_region 8 with (first | ((with_reducible refine gate_dst (N := 2) rfl ?_); refine box_event ?hg (N := 2) ?hd (cs := #[.int .i64 a0_0, .int .i64 a0_1, .slice A0_2 l0_2.length c0_2]) (t := 24) ?hr ?_; (case hd => rfl); (case hg => rfl); (case hr => first | (go_simp; done) | (go_simp; rfl)); intro gb233 hg w13 hbox hb; have n0_ := Aside0.mk (below_step (by repeat (first | (with_reducible first | exact HB.out | apply ba | apply bn | apply bd) | exact HB.out)) hb); have n1_ := Aside0.mk (hbox); have n2_ := Aside0.mk ((by rw [hg]; exact (below_size (by repeat (first | (with_reducible first | exact HB.out | apply ba | apply bn | apply bd) | exact HB.out))) : w.heap.size ≤ gb233)); have n3_ := Aside0.mk ((by rw [hg]; exact (below_size (by repeat (first | (with_reducible first | exact HB.out | apply ba | apply bn | apply bd) | exact HB.out))) : w.heap.size ≤ gb233)); clear HB; have HB := n0_; have BK233 := n1_; have GW233 := n2_; have GE233 := n3_; clear n0_ n1_ n2_ n3_; clear hb hbox hg; have hcz14_0 : w13.cell? ⟨gb233, 0, none⟩ = some (.int .i64 a0_0) := cl BK233.out 0 rfl; have hcz14_1 : w13.cell? ⟨gb233, 1, none⟩ = some (.int .i64 a0_1) := cl BK233.out 1 rfl; have hcz14_2 : w13.cell? ⟨gb233, 2, none⟩ = some (.slice A0_2 l0_2.length c0_2) := cl BK233.out 2 rfl; have hfz14_0 := fz BK233.out 0; have hfz14_1 := fz BK233.out 1; have hfz14_2 := fz BK233.out 2) | ((with_reducible refine gate_callee (f := 17) rfl ?_); refine goesL_ (some 18) rfl rfl Try.func17 (by kernel_rfl) rfl #[.agg #[.int .i64 a0_0, .int .i64 a0_1, .slice A0_2 l0_2.length c0_2], .int .i64 1048576] rfl (by (try simp only [List.map_toArray, List.map_cons, List.map_nil]); first | done | rfl | (simp only [List.length_drop, List.length_take]; rfl)) ?_; (with_reducible refine (laws_szTable.calls a0_0 a0_1 _ _ l0_2 1048576 t234 _ ?side1 ?side2 A3.out).mono ?_); (case side1 => repeat (first | exact (Kd.C_below HR0_2.out HB.out) | (with_reducible refine Kd.C_alloc ?_ _) | (with_reducible refine Kd.C_drewN ?_ _) | (with_reducible refine Kd.C_drew ?_))); (case side2 => exact HC0_2.out); rintro e w15 ⟨rfl, hb⟩; refine ⟨_, rfl, ?_⟩; have n0_ := Aside0.mk (blk_below (g := gb233) (o := .cells #[.int .i64 a0_0, .int .i64 a0_1, .slice A0_2 l0_2.length c0_2] 24 (0, 0)) (by (with_reducible repeat (first | refine blk_drewN ?_ _ | refine blk_drew ?_ | refine blk_alloc ?_ _)); exact BK233.out) hb); have n1_ := Aside0.mk (below_step (by repeat (first | (with_reducible first | exact HB.out | apply ba | apply bn | apply bd | refine bt ?_ GE233.out) | exact HB.out)) hb); clear BK233; clear HB; have BK233 := n0_; have HB := n1_; clear n0_ n1_; (try clear hb); (try clear hb2); (try clear hk); (try clear hi); have hcz16_0 : w15.cell? ⟨gb233, 0, none⟩ = some (.int .i64 a0_0) := cl BK233.out 0 rfl; have hcz16_1 : w15.cell? ⟨gb233, 1, none⟩ = some (.int .i64 a0_1) := cl BK233.out 1 rfl; have hcz16_2 : w15.cell? ⟨gb233, 2, none⟩ = some (.slice A0_2 l0_2.length c0_2) := cl BK233.out 2 rfl; have hfz16_0 := fz BK233.out 0; have hfz16_1 := fz BK233.out 1; have hfz16_2 := fz BK233.out 2) | ((with_reducible refine gate_callee (f := 19) rfl ?_); refine goesL_ (some 23) rfl rfl Try.func19 (by kernel_rfl) rfl #[.agg #[.int .i64 a0_0, .int .i64 a0_1, .slice A0_2 l0_2.length c0_2]] rfl (by (try simp only [List.map_toArray, List.map_cons, List.map_nil]); first | done | rfl | (simp only [List.length_drop, List.length_take]; rfl)) ?_; (with_reducible refine (laws_toTable.calls k a0_0 a0_1 _ _ l0_2 t235 t236 t237 _ ?side1 ?side2 A8.out).mono ?_); (case side1 => repeat (first | exact (Kd.C_below HR0_2.out HB.out) | (with_reducible refine Kd.C_alloc ?_ _) | (with_reducible refine Kd.C_drewN ?_ _) | (with_reducible refine Kd.C_drew ?_))); (case side2 => exact HC0_2.out); rintro e w17 ⟨v238, rfl, ho0, hb⟩; refine ⟨_, rfl, ?_⟩; have n0_ := Aside0.mk (Kd.R_lower ho0 (below_size (by repeat (first | (with_reducible first | exact HB.out | apply ba | apply bn | apply bd | refine bt ?_ GE233.out) | exact HB.out)))); have n1_ := Aside0.mk (blk_below (g := gb233) (o := .cells #[.int .i64 a0_0, .int .i64 a0_1, .slice A0_2 l0_2.length c0_2] 24 (0, 0)) (by (with_reducible repeat (first | refine blk_drewN ?_ _ | refine blk_drew ?_ | refine blk_alloc ?_ _)); exact BK233.out) hb); have n2_ := Aside0.mk (below_step (by repeat (first | (with_reducible first | exact HB.out | apply ba | apply bn | apply bd | refine bt ?_ GE233.out) | exact HB.out)) hb); clear BK233; clear HB; have HO239 := n0_; have BK233 := n1_; have HB := n2_; clear n0_ n1_ n2_; (try clear hb); (try clear hb2); (try clear hk); (try clear hi); (try clear ho0); obtain ⟨Ao18, co18, eo18⟩ := Kd.R_slice HO239.out; subst eo18) | ((with_reducible refine gate_callee (f := 24) rfl ?_); refine goesL_ (some 25) rfl rfl Try.func24 (by kernel_rfl) rfl #[.agg #[.int .i64 t235, .int .i64 t236, .slice Ao18 t237.length co18], .int .i64 a1] rfl (by (try simp only [List.map_toArray, List.map_cons, List.map_nil]); first | done | rfl | (simp only [List.length_drop, List.length_take]; rfl)) ?_; (with_reducible refine (spec_TableJoin.calls k t235 t236 _ _ t237 a1 t240 t241 t242 t245 _ ?side1 ?side2 A9.out).mono ?_); (case side1 => repeat (first | exact (Kd.R_reads' HO239.out).2.2 | (with_reducible refine Kd.C_alloc ?_ _) | (with_reducible refine Kd.C_drewN ?_ _) | (with_reducible refine Kd.C_drew ?_))); (case side2 => exact (Kd.R_reads' HO239.out).2.1); rintro e w19 ⟨v243, rfl, ho0, hb⟩; refine ⟨_, rfl, ?_⟩; have n0_ := Aside0.mk (Kd.R_elder' (by (with_reducible repeat (first | apply Kd.R_alloc | apply Kd.R_drewN | apply Kd.R_drew)); exact HO239.out) (Kd.R_base ho0) hb); have n1_ := Aside0.mk (Kd.R_lower (Kd.R_new' ho0 (Kd.R_lt (by (with_reducible repeat (first | apply Kd.R_alloc | apply Kd.R_drewN | apply Kd.R_drew)); exact HO239.out))) (below_size (by repeat (first | (with_reducible first | exact HB.out | apply ba | apply bn | apply bd | refine bt ?_ GE233.out) | exact HB.out)))); have n2_ := Aside0.mk (blk_below (g := gb233) (o := .cells #[.int .i64 a0_0, .int .i64 a0_1, .slice A0_2 l0_2.length c0_2] 24 (0, 0)) (by (with_reducible repeat (first | refine blk_drewN ?_ _ | refine blk_drew ?_ | refine blk_alloc ?_ _)); exact BK233.out) hb); have n3_ := Aside0.mk (below_step (by repeat (first | (with_reducible first | exact HB.out | apply ba | apply bn | apply bd | refine bt ?_ GE233.out) | exact HB.out)) hb); clear HO239; clear BK233; clear HB; have HO239 := n0_; have HO244 := n1_; have BK233 := n2_; have HB := n3_; clear n0_ n1_ n2_ n3_; (try clear hb); (try clear hb2); (try clear hk); (try clear hi); (try clear ho0)) | ((with_reducible refine gate_dst (N := 6) rfl ?_); refine box_event ?hg (N := 6) ?hd (cs := #[.int .i64 0, .int .i64 0, .slice none 0 0]) (t := 29) ?hr ?_; (case hd => rfl); (case hg => rfl); (case hr => first | (go_simp; done) | (go_simp; rfl)); intro gb246 hg w20 hbox hb; have n0_ := Aside0.mk (Kd.R_below (by (with_reducible repeat (first | apply Kd.R_alloc | apply Kd.R_drewN | apply Kd.R_drew)); exact HO239.out) hb); have n1_ := Aside0.mk (Kd.R_below (by (with_reducible repeat (first | apply Kd.R_alloc | apply Kd.R_drewN | apply Kd.R_drew)); exact HO244.out) hb); have n2_ := Aside0.mk (blk_below (g := gb233) (o := .cells #[.int .i64 a0_0, .int .i64 a0_1, .slice A0_2 l0_2.length c0_2] 24 (0, 0)) (by (with_reducible repeat (first | refine blk_drewN ?_ _ | refine blk_drew ?_ | refine blk_alloc ?_ _)); exact BK233.out) hb); have n3_ := Aside0.mk (below_step (by repeat (first | (with_reducible first | exact HB.out | apply ba | apply bn | apply bd | refine bt ?_ GE233.out) | exact HB.out)) hb); have n4_ := Aside0.mk (hbox); have n5_ := Aside0.mk ((by rw [hg]; exact (below_size (by repeat (first | (with_reducible first | exact HB.out | apply ba | apply bn | apply bd | refine bt ?_ GE233.out) | exact HB.out))) : w.heap.size ≤ gb246)); have n6_ := Aside0.mk ((by rw [hg]; exact (below_size (by repeat (first | (with_reducible first | exact HB.out | apply ba | apply bn | apply bd | refine bt ?_ GE233.out) | exact HB.out))) : w.heap.size ≤ gb246)); have n7_ := Aside0.mk ((by rw [hg]; exact Nat.ne_of_lt (blk_lt (g := gb233) (o := .cells #[.int .i64 a0_0, .int .i64 a0_1, .slice A0_2 l0_2.length c0_2] 24 (0, 0)) (by (with_reducible repeat (first | refine blk_drewN ?_ _ | refine blk_drew ?_ | refine blk_alloc ?_ _)); exact BK233.out)) : gb233 ≠ gb246)); have n8_ := Aside0.mk ((by rw [hg]; exact Nat.ne_of_gt (blk_lt (g := gb233) (o := .cells #[.int .i64 a0_0, .int .i64 a0_1, .slice A0_2 l0_2.length c0_2] 24 (0, 0)) (by (with_reducible repeat (first | refine blk_drewN ?_ _ | refine blk_drew ?_ | refine blk_alloc ?_ _)); exact BK233.out)) : gb246 ≠ gb233)); clear HO239; clear HO244; clear BK233; clear HB; have HO239 := n0_; have HO244 := n1_; have BK233 := n2_; have HB := n3_; have BK246 := n4_; have GW246 := n5_; have GE246 := n6_; have NB233_246 := n7_; have NB246_233 := n8_; clear n0_ n1_ n2_ n3_ n4_ n5_ n6_ n7_ n8_; clear hb hbox hg; have hnb21 := NB246_233.out; have hnc21 := NB233_246.out; have hcz22_0 : w20.cell? ⟨gb246, 0, none⟩ = some (.int .i64 0) := cl BK246.out 0 rfl; have hcz22_1 : w20.cell? ⟨gb246, 1, none⟩ = some (.int .i64 0) := cl BK246.out 1 rfl; have hcz22_2 : w20.cell? ⟨gb246, 2, none⟩ = some (.slice none 0 0) := cl BK246.out 2 rfl; have hfz22_0 := fz BK246.out 0; have hfz22_1 := fz BK246.out 1; have hfz22_2 := fz BK246.out 2; obtain ⟨Ao23, co23, eo23⟩ := Kd.R_slice HO244.out; subst eo23; have hcz24_0 : w20.cell? ⟨gb233, 0, none⟩ = some (.int .i64 a0_0) := cl BK233.out 0 rfl; have hcz24_1 : w20.cell? ⟨gb233, 1, none⟩ = some (.int .i64 a0_1) := cl BK233.out 1 rfl; have hcz24_2 : w20.cell? ⟨gb233, 2, none⟩ = some (.slice A0_2 l0_2.length c0_2) := cl BK233.out 2 rfl; have hfz24_0 := fz BK233.out 0; have hfz24_1 := fz BK233.out 1; have hfz24_2 := fz BK233.out 2) | ((with_reducible refine gate_callee (f := 19) rfl ?_); refine goesL_ (some 29) rfl rfl Try.func19 (by kernel_rfl) rfl #[.agg #[.int .i64 a0_0, .int .i64 a0_1, .slice A0_2 l0_2.length c0_2]] rfl (by (try simp only [List.map_toArray, List.map_cons, List.map_nil]); first | done | rfl | (simp only [List.length_drop, List.length_take]; rfl)) ?_; (with_reducible refine (laws_toTable.calls k a0_0 a0_1 _ _ l0_2 t247 t248 t249 _ ?side1 ?side2 A10.out).mono ?_); (case side1 => exact Kd.C_below HR0_2.out (by repeat (first | (with_reducible first | exact HB.out | apply ba | apply bn | apply bd | refine bt ?_ GE233.out | refine bt ?_ GE246.out) | exact HB.out))); (case side2 => exact HC0_2.out); rintro e w25 ⟨v250, rfl, ho0, hb⟩; refine ⟨_, rfl, ?_⟩; have n0_ := Aside0.mk (Kd.R_elder' (by (with_reducible repeat (first | apply Kd.R_alloc | apply Kd.R_drewN | apply Kd.R_drew)); exact (Kd.R_mono (rF (rF (rF (Kd.R_types HO239.out BK246.out (by decide)) _ _) _ _) _ _) (fun _ h_ => h_.1))) (Kd.R_base ho0) hb); have n1_ := Aside0.mk (Kd.R_elder' (by (with_reducible repeat (first | apply Kd.R_alloc | apply Kd.R_drewN | apply Kd.R_drew)); exact (Kd.R_mono (rF (rF (rF (Kd.R_types HO244.out BK246.out (by decide)) _ _) _ _) _ _) (fun _ h_ => h_.1))) (Kd.R_base ho0) hb); have n2_ := Aside0.mk (Kd.R_lower (Kd.R_new' (Kd.R_new' ho0 (Kd.R_lt (by (with_reducible repeat (first | apply Kd.R_alloc | apply Kd.R_drewN | apply Kd.R_drew)); exact (Kd.R_mono (rF (rF (rF (Kd.R_types HO239.out BK246.out (by decide)) _ _) _ _) _ _) (fun _ h_ => h_.1))))) (Kd.R_lt (by (with_reducible repeat (first | apply Kd.R_alloc | apply Kd.R_drewN | apply Kd.R_drew)); exact (Kd.R_mono (rF (rF (rF (Kd.R_types HO244.out BK246.out (by decide)) _ _) _ _) _ _) (fun _ h_ => h_.1))))) (below_size (by repeat (first | (with_reducible first | exact HB.out | apply ba | apply bn | apply bd | refine bt ?_ GE233.out | refine bt ?_ GE246.out) | exact HB.out)))); have n3_ := Aside0.mk (blk_below (g := gb233) (o := .cells #[.int .i64 a0_0, .int .i64 a0_1, .slice A0_2 l0_2.length c0_2] 24 (0, 0)) (by (with_reducible repeat (first | refine blk_drewN ?_ _ | refine blk_drew ?_ | refine blk_alloc ?_ _)); refine blk_far ?_ NB233_246.out _; (with_reducible repeat (first | refine blk_drewN ?_ _ | refine blk_drew ?_ | refine blk_alloc ?_ _)); refine blk_far ?_ NB233_246.out _; (with_reducible repeat (first | refine blk_drewN ?_ _ | refine blk_drew ?_ | refine blk_alloc ?_ _)); refine blk_far ?_ NB233_246.out _; (with_reducible repeat (first | refine blk_drewN ?_ _ | refine blk_drew ?_ | refine blk_alloc ?_ _)); exact BK233.out) hb); have n4_ := Aside0.mk (blk_below (g := gb246) (o := .cells #[.int .i64 t240, .int .i64 t241, .slice Ao23 t242.length co23] 29 (0, 0)) (by (with_reducible repeat (first | refine blk_drewN ?_ _ | refine blk_drew ?_ | refine blk_alloc ?_ _)); refine blk_put (cs := #[.int .i64 t240, .int .i64 t241, .slice none 0 0]) ?_ 2 _ rfl; (with_reducible repeat (first | refine blk_drewN ?_ _ | refine blk_drew ?_ | refine blk_alloc ?_ _)); refine blk_put (cs := #[.int .i64 t240, .int .i64 0, .slice none 0 0]) ?_ 1 _ rfl; (with_reducible repeat (first | refine blk_drewN ?_ _ | refine blk_drew ?_ | refine blk_alloc ?_ _)); refine blk_put (cs := #[.int .i64 0, .int .i64 0, .slice none 0 0]) ?_ 0 _ rfl; (with_reducible repeat (first | refine blk_drewN ?_ _ | refine blk_drew ?_ | refine blk_alloc ?_ _)); exact BK246.out) hb); have n5_ := Aside0.mk (below_step (by repeat (first | (with_reducible first | exact HB.out | apply ba | apply bn | apply bd | refine bt ?_ GE233.out | refine bt ?_ GE246.out) | exact HB.out)) hb); clear HO239; clear HO244; clear BK233; clear BK246; clear HB; have HO239 := n0_; have HO244 := n1_; have HO251 := n2_; have BK233 := n3_; have BK246 := n4_; have HB := n5_; clear n0_ n1_ n2_ n3_ n4_ n5_; (try clear hb); (try clear hb2); (try clear hk); (try clear hi); (try clear ho0)) | ((with_reducible refine gate_dst (N := 8) rfl ?_); refine box_event ?hg (N := 8) ?hd (cs := #[.int .i64 0, .int .i64 0, .slice none 0 0]) (t := 29) ?hr ?_; (case hd => rfl); (case hg => rfl); (case hr => first | (go_simp; done) | (go_simp; rfl)); intro gb252 hg w26 hbox hb; have n0_ := Aside0.mk (Kd.R_below (by (with_reducible repeat (first | apply Kd.R_alloc | apply Kd.R_drewN | apply Kd.R_drew)); exact HO239.out) hb); have n1_ := Aside0.mk (Kd.R_below (by (with_reducible repeat (first | apply Kd.R_alloc | apply Kd.R_drewN | apply Kd.R_drew)); exact HO244.out) hb); have n2_ := Aside0.mk (Kd.R_below (by (with_reducible repeat (first | apply Kd.R_alloc | apply Kd.R_drewN | apply Kd.R_drew)); exact HO251.out) hb); have n3_ := Aside0.mk (blk_below (g := gb233) (o := .cells #[.int .i64 a0_0, .int .i64 a0_1, .slice A0_2 l0_2.length c0_2] 24 (0, 0)) (by (with_reducible repeat (first | refine blk_drewN ?_ _ | refine blk_drew ?_ | refine blk_alloc ?_ _)); exact BK233.out) hb); have n4_ := Aside0.mk (blk_below (g := gb246) (o := .cells #[.int .i64 t240, .int .i64 t241, .slice Ao23 t242.length co23] 29 (0, 0)) (by (with_reducible repeat (first | refine blk_drewN ?_ _ | refine blk_drew ?_ | refine blk_alloc ?_ _)); exact BK246.out) hb); have n5_ := Aside0.mk (below_step (by repeat (first | (with_reducible first | exact HB.out | apply ba | apply bn | apply bd | refine bt ?_ GE233.out | refine bt ?_ GE246.out) | exact HB.out)) hb); have n6_ := Aside0.mk (hbox); have n7_ := Aside0.mk ((by rw [hg]; exact (below_size (by repeat (first | (with_reducible first | exact HB.out | apply ba | apply bn | apply bd | refine bt ?_ GE233.out | refine bt ?_ GE246.out) | exact HB.out))) : w.heap.size ≤ gb252)); have n8_ := Aside0.mk ((by rw [hg]; exact (below_size (by repeat (first | (with_reducible first | exact HB.out | apply ba | apply bn | apply bd | refine bt ?_ GE233.out | refine bt ?_ GE246.out) | exact HB.out))) : w.heap.size ≤ gb252)); have n9_ := Aside0.mk ((by rw [hg]; exact Nat.ne_of_lt (blk_lt (g := gb233) (o := .cells #[.int .i64 a0_0, .int .i64 a0_1, .slice A0_2 l0_2.length c0_2] 24 (0, 0)) (by (with_reducible repeat (first | refine blk_drewN ?_ _ | refine blk_drew ?_ | refine blk_alloc ?_ _)); exact BK233.out)) : gb233 ≠ gb252)); have n10_ := Aside0.mk ((by rw [hg]; exact Nat.ne_of_gt (blk_lt (g := gb233) (o := .cells #[.int .i64 a0_0, .int .i64 a0_1, .slice A0_2 l0_2.length c0_2] 24 (0, 0)) (by (with_reducible repeat (first | refine blk_drewN ?_ _ | refine blk_drew ?_ | refine blk_alloc ?_ _)); exact BK233.out)) : gb252 ≠ gb233)); have n11_ := Aside0.mk ((by rw [hg]; exact Nat.ne_of_lt (blk_lt (g := gb246) (o := .cells #[.int .i64 t240, .int .i64 t241, .slice Ao23 t242.length co23] 29 (0, 0)) (by (with_reducible repeat (first | refine blk_drewN ?_ _ | refine blk_drew ?_ | refine blk_alloc ?_ _)); exact BK246.out)) : gb246 ≠ gb252)); have n12_ := Aside0.mk ((by rw [hg]; exact Nat.ne_of_gt (blk_lt (g := gb246) (o := .cells #[.int .i64 t240, .int .i64 t241, .slice Ao23 t242.length co23] 29 (0, 0)) (by (with_reducible repeat (first | refine blk_drewN ?_ _ | refine blk_drew ?_ | refine blk_alloc ?_ _)); exact BK246.out)) : gb252 ≠ gb246)); clear HO239; clear HO244; clear HO251; clear BK233; clear BK246; clear HB; have HO239 := n0_; have HO244 := n1_; have HO251 := n2_; have BK233 := n3_; have BK246 := n4_; have HB := n5_; have BK252 := n6_; have GW252 := n7_; have GE252 := n8_; have NB233_252 := n9_; have NB252_233 := n10_; have NB246_252 := n11_; have NB252_246 := n12_; clear n0_ n1_ n2_ n3_ n4_ n5_ n6_ n7_ n8_ n9_ n10_ n11_ n12_; clear hb hbox hg; have hnb27 := NB252_233.out; have hnc27 := NB233_252.out; have hnb28 := NB252_246.out; have hnc28 := NB246_252.out; have hcz29_0 : w26.cell? ⟨gb252, 0, none⟩ = some (.int .i64 0) := cl BK252.out 0 rfl; have hcz29_1 : w26.cell? ⟨gb252, 1, none⟩ = some (.int .i64 0) := cl BK252.out 1 rfl; have hcz29_2 : w26.cell? ⟨gb252, 2, none⟩ = some (.slice none 0 0) := cl BK252.out 2 rfl; have hfz29_0 := fz BK252.out 0; have hfz29_1 := fz BK252.out 1; have hfz29_2 := fz BK252.out 2; obtain ⟨Ao30, co30, eo30⟩ := Kd.R_slice HO251.out; subst eo30) | ((with_reducible refine gate_callee (f := 25) rfl ?_); refine goesL_ (some 33) rfl rfl Try.func25 (by kernel_rfl) rfl #[.agg #[.int .i64 t247, .int .i64 t248, .slice Ao30 t249.length co30], .int .i64 a1] rfl (by (try simp only [List.map_toArray, List.map_cons, List.map_nil]); first | done | rfl | (simp only [List.length_drop, List.length_take]; rfl)) ?_; (with_reducible refine (impl_TableJoin.calls k t247 t248 _ _ t249 a1 t253 t254 t255 t258 _ ?side1 ?side2 A11.out).mono ?_); (case side1 => refine (Kd.R_reads' (e := 40) (base := w.heap.size) (ok := fun k_ => ((True ∧ some k_ ≠ (.slice Ao18 t237.length co18 : Value).ownBlock) ∧ some k_ ≠ (.slice Ao23 t242.length co23 : Value).ownBlock)) (n := t249.length) (c := co30) ?_).2.2; exact (by (with_reducible repeat (first | apply Kd.R_alloc | apply Kd.R_drewN | apply Kd.R_drew)); exact (Kd.R_mono (rF (rF (rF (Kd.R_types HO251.out BK252.out (by decide)) _ _) _ _) _ _) (fun _ h_ => h_.1)))); (case side2 => exact (Kd.R_reads' HO251.out).2.1); rintro e w31 ⟨v256, rfl, ho0, hb⟩; refine ⟨_, rfl, ?_⟩; have n0_ := Aside0.mk (Kd.R_elder' (by (with_reducible repeat (first | apply Kd.R_alloc | apply Kd.R_drewN | apply Kd.R_drew)); exact (Kd.R_mono (rF (rF (rF (Kd.R_types HO239.out BK252.out (by decide)) _ _) _ _) _ _) (fun _ h_ => h_.1))) (Kd.R_base ho0) hb); have n1_ := Aside0.mk (Kd.R_elder' (by (with_reducible repeat (first | apply Kd.R_alloc | apply Kd.R_drewN | apply Kd.R_drew)); exact (Kd.R_mono (rF (rF (rF (Kd.R_types HO244.out BK252.out (by decide)) _ _) _ _) _ _) (fun _ h_ => h_.1))) (Kd.R_base ho0) hb); have n2_ := Aside0.mk (Kd.R_elder' (by (with_reducible repeat (first | apply Kd.R_alloc | apply Kd.R_drewN | apply Kd.R_drew)); exact (Kd.R_mono (rF (rF (rF (Kd.R_types HO251.out BK252.out (by decide)) _ _) _ _) _ _) (fun _ h_ => h_.1))) (Kd.R_base ho0) hb); have n3_ := Aside0.mk (Kd.R_lower (Kd.R_new' (Kd.R_new' (Kd.R_new' ho0 (Kd.R_lt (by (with_reducible repeat (first | apply Kd.R_alloc | apply Kd.R_drewN | apply Kd.R_drew)); exact (Kd.R_mono (rF (rF (rF (Kd.R_types HO239.out BK252.out (by decide)) _ _) _ _) _ _) (fun _ h_ => h_.1))))) (Kd.R_lt (by (with_reducible repeat (first | apply Kd.R_alloc | apply Kd.R_drewN | apply Kd.R_drew)); exact (Kd.R_mono (rF (rF (rF (Kd.R_types HO244.out BK252.out (by decide)) _ _) _ _) _ _) (fun _ h_ => h_.1))))) (Kd.R_lt (by (with_reducible repeat (first | apply Kd.R_alloc | apply Kd.R_drewN | apply Kd.R_drew)); exact (Kd.R_mono (rF (rF (rF (Kd.R_types HO251.out BK252.out (by decide)) _ _) _ _) _ _) (fun _ h_ => h_.1))))) (below_size (by repeat (first | (with_reducible first | exact HB.out | apply ba | apply bn | apply bd | refine bt ?_ GE233.out | refine bt ?_ GE246.out | refine bt ?_ GE252.out) | exact HB.out)))); have n4_ := Aside0.mk (blk_below (g := gb233) (o := .cells #[.int .i64 a0_0, .int .i64 a0_1, .slice A0_2 l0_2.length c0_2] 24 (0, 0)) (by (with_reducible repeat (first | refine blk_drewN ?_ _ | refine blk_drew ?_ | refine blk_alloc ?_ _)); refine blk_far ?_ NB233_252.out _; (with_reducible repeat (first | refine blk_drewN ?_ _ | refine blk_drew ?_ | refine blk_alloc ?_ _)); refine blk_far ?_ NB233_252.out _; (with_reducible repeat (first | refine blk_drewN ?_ _ | refine blk_drew ?_ | refine blk_alloc ?_ _)); refine blk_far ?_ NB233_252.out _; (with_reducible repeat (first | refine blk_drewN ?_ _ | refine blk_drew ?_ | refine blk_alloc ?_ _)); exact BK233.out) hb); have n5_ := Aside0.mk (blk_below (g := gb246) (o := .cells #[.int .i64 t240, .int .i64 t241, .slice Ao23 t242.length co23] 29 (0, 0)) (by (with_reducible repeat (first | refine blk_drewN ?_ _ | refine blk_drew ?_ | refine blk_alloc ?_ _)); refine blk_far ?_ NB246_252.out _; (with_reducible repeat (first | refine blk_drewN ?_ _ | refine blk_drew ?_ | refine blk_alloc ?_ _)); refine blk_far ?_ NB246_252.out _; (with_reducible repeat (first | refine blk_drewN ?_ _ | refine blk_drew ?_ | refine blk_alloc ?_ _)); refine blk_far ?_ NB246_252.out _; (with_reducible repeat (first | refine blk_drewN ?_ _ | refine blk_drew ?_ | refine blk_alloc ?_ _)); exact BK246.out) hb); have n6_ := Aside0.mk (blk_below (g := gb252) (o := .cells #[.int .i64 t247, .int .i64 t248, .slice Ao30 t249.length co30] 29 (0, 0)) (by (with_reducible repeat (first | refine blk_drewN ?_ _ | refine blk_drew ?_ | refine blk_alloc ?_ _)); refine blk_put (cs := #[.int .i64 t247, .int .i64 t248, .slice none 0 0]) ?_ 2 _ rfl; (with_reducible repeat (first | refine blk_drewN ?_ _ | refine blk_drew ?_ | refine blk_alloc ?_ _)); refine blk_put (cs := #[.int .i64 t247, .int .i64 0, .slice none 0 0]) ?_ 1 _ rfl; (with_reducible repeat (first | refine blk_drewN ?_ _ | refine blk_drew ?_ | refine blk_alloc ?_ _)); refine blk_put (cs := #[.int .i64 0, .int .i64 0, .slice none 0 0]) ?_ 0 _ rfl; (with_reducible repeat (first | refine blk_drewN ?_ _ | refine blk_drew ?_ | refine blk_alloc ?_ _)); exact BK252.out) hb); have n7_ := Aside0.mk (below_step (by repeat (first | (with_reducible first | exact HB.out | apply ba | apply bn | apply bd | refine bt ?_ GE233.out | refine bt ?_ GE246.out | refine bt ?_ GE252.out) | exact HB.out)) hb); clear HO239; clear HO244; clear HO251; clear BK233; clear BK246; clear BK252; clear HB; have HO239 := n0_; have HO244 := n1_; have HO251 := n2_; have HO257 := n3_; have BK233 := n4_; have BK246 := n5_; have BK252 := n6_; have HB := n7_; clear n0_ n1_ n2_ n3_ n4_ n5_ n6_ n7_; (try clear hb); (try clear hb2); (try clear hk); (try clear hi); (try clear ho0)) | ((with_reducible refine gate_dst (N := 9) rfl ?_); refine box_event ?hg (N := 9) ?hd (cs := #[.int .i64 0, .int .i64 0, .slice none 0 0]) (t := 29) ?hr ?_; (case hd => rfl); (case hg => rfl); (case hr => first | (go_simp; done) | (go_simp; rfl)); intro gb259 hg w32 hbox hb; have n0_ := Aside0.mk (Kd.R_below (by (with_reducible repeat (first | apply Kd.R_alloc | apply Kd.R_drewN | apply Kd.R_drew)); exact HO239.out) hb); have n1_ := Aside0.mk (Kd.R_below (by (with_reducible repeat (first | apply Kd.R_alloc | apply Kd.R_drewN | apply Kd.R_drew)); exact HO244.out) hb); have n2_ := Aside0.mk (Kd.R_below (by (with_reducible repeat (first | apply Kd.R_alloc | apply Kd.R_drewN | apply Kd.R_drew)); exact HO251.out) hb); have n3_ := Aside0.mk (Kd.R_below (by (with_reducible repeat (first | apply Kd.R_alloc | apply Kd.R_drewN | apply Kd.R_drew)); exact HO257.out) hb); have n4_ := Aside0.mk (blk_below (g := gb233) (o := .cells #[.int .i64 a0_0, .int .i64 a0_1, .slice A0_2 l0_2.length c0_2] 24 (0, 0)) (by (with_reducible repeat (first | refine blk_drewN ?_ _ | refine blk_drew ?_ | refine blk_alloc ?_ _)); exact BK233.out) hb); have n5_ := Aside0.mk (blk_below (g := gb246) (o := .cells #[.int .i64 t240, .int .i64 t241, .slice Ao23 t242.length co23] 29 (0, 0)) (by (with_reducible repeat (first | refine blk_drewN ?_ _ | refine blk_drew ?_ | refine blk_alloc ?_ _)); exact BK246.out) hb); have n6_ := Aside0.mk (blk_below (g := gb252) (o := .cells #[.int .i64 t247, .int .i64 t248, .slice Ao30 t249.length co30] 29 (0, 0)) (by (with_reducible repeat (first | refine blk_drewN ?_ _ | refine blk_drew ?_ | refine blk_alloc ?_ _)); exact BK252.out) hb); have n7_ := Aside0.mk (below_step (by repeat (first | (with_reducible first | exact HB.out | apply ba | apply bn | apply bd | refine bt ?_ GE233.out | refine bt ?_ GE246.out | refine bt ?_ GE252.out) | exact HB.out)) hb); have n8_ := Aside0.mk (hbox); have n9_ := Aside0.mk ((by rw [hg]; exact (below_size (by repeat (first | (with_reducible first | exact HB.out | apply ba | apply bn | apply bd | refine bt ?_ GE233.out | refine bt ?_ GE246.out | refine bt ?_ GE252.out) | exact HB.out))) : w.heap.size ≤ gb259)); have n10_ := Aside0.mk ((by rw [hg]; exact (below_size (by repeat (first | (with_reducible first | exact HB.out | apply ba | apply bn | apply bd | refine bt ?_ GE233.out | refine bt ?_ GE246.out | refine bt ?_ GE252.out) | exact HB.out))) : w.heap.size ≤ gb259)); have n11_ := Aside0.mk ((by rw [hg]; exact Nat.ne_of_lt (blk_lt (g := gb233) (o := .cells #[.int .i64 a0_0, .int .i64 a0_1, .slice A0_2 l0_2.length c0_2] 24 (0, 0)) (by (with_reducible repeat (first | refine blk_drewN ?_ _ | refine blk_drew ?_ | refine blk_alloc ?_ _)); exact BK233.out)) : gb233 ≠ gb259)); have n12_ := Aside0.mk ((by rw [hg]; exact Nat.ne_of_gt (blk_lt (g := gb233) (o := .cells #[.int .i64 a0_0, .int .i64 a0_1, .slice A0_2 l0_2.length c0_2] 24 (0, 0)) (by (with_reducible repeat (first | refine blk_drewN ?_ _ | refine blk_drew ?_ | refine blk_alloc ?_ _)); exact BK233.out)) : gb259 ≠ gb233)); have n13_ := Aside0.mk ((by rw [hg]; exact Nat.ne_of_lt (blk_lt (g := gb246) (o := .cells #[.int .i64 t240, .int .i64 t241, .slice Ao23 t242.length co23] 29 (0, 0)) (by (with_reducible repeat (first | refine blk_drewN ?_ _ | refine blk_drew ?_ | refine blk_alloc ?_ _)); exact BK246.out)) : gb246 ≠ gb259)); have n14_ := Aside0.mk ((by rw [hg]; exact Nat.ne_of_gt (blk_lt (g := gb246) (o := .cells #[.int .i64 t240, .int .i64 t241, .slice Ao23 t242.length co23] 29 (0, 0)) (by (with_reducible repeat (first | refine blk_drewN ?_ _ | refine blk_drew ?_ | refine blk_alloc ?_ _)); exact BK246.out)) : gb259 ≠ gb246)); have n15_ := Aside0.mk ((by rw [hg]; exact Nat.ne_of_lt (blk_lt (g := gb252) (o := .cells #[.int .i64 t247, .int .i64 t248, .slice Ao30 t249.length co30] 29 (0, 0)) (by (with_reducible repeat (first | refine blk_drewN ?_ _ | refine blk_drew ?_ | refine blk_alloc ?_ _)); exact BK252.out)) : gb252 ≠ gb259)); have n16_ := Aside0.mk ((by rw [hg]; exact Nat.ne_of_gt (blk_lt (g := gb252) (o := .cells #[.int .i64 t247, .int .i64 t248, .slice Ao30 t249.length co30] 29 (0, 0)) (by (with_reducible repeat (first | refine blk_drewN ?_ _ | refine blk_drew ?_ | refine blk_alloc ?_ _)); exact BK252.out)) : gb259 ≠ gb252)); clear HO239; clear HO244; clear HO251; clear HO257; clear BK233; clear BK246; clear BK252; clear HB; have HO239 := n0_; have HO244 := n1_; have HO251 := n2_; have HO257 := n3_; have BK233 := n4_; have BK246 := n5_; have BK252 := n6_; have HB := n7_; have BK259 := n8_; have GW259 := n9_; have GE259 := n10_; have NB233_259 := n11_; have NB259_233 := n12_; have NB246_259 := n13_; have NB259_246 := n14_; have NB252_259 := n15_; have NB259_252 := n16_; clear n0_ n1_ n2_ n3_ n4_ n5_ n6_ n7_ n8_ n9_ n10_ n11_ n12_ n13_ n14_ n15_ n16_; clear hb hbox hg; have hnb33 := NB259_233.out; have hnc33 := NB233_259.out; have hnb34 := NB259_246.out; have hnc34 := NB246_259.out; have hnb35 := NB259_252.out; have hnc35 := NB252_259.out; have hcz36_0 : w32.cell? ⟨gb259, 0, none⟩ = some (.int .i64 0) := cl BK259.out 0 rfl; have hcz36_1 : w32.cell? ⟨gb259, 1, none⟩ = some (.int .i64 0) := cl BK259.out 1 rfl; have hcz36_2 : w32.cell? ⟨gb259, 2, none⟩ = some (.slice none 0 0) := cl BK259.out 2 rfl; have hfz36_0 := fz BK259.out 0; have hfz36_1 := fz BK259.out 1; have hfz36_2 := fz BK259.out 2; obtain ⟨Ao37, co37, eo37⟩ := Kd.R_slice HO257.out; subst eo37))
  (try simp only [Act.put, List.setIfInBounds_toArray, List.set_cons_zero, List.set_cons_succ])
  go_cut [44] (fun v44 wc => ∃ (kq : Nat) (x44_11 : Bool), v44 = .bool x44_11 ∧ Aside0 (laws_FnExactTableJoin.j0 kq a1 t245 t258 x44_11 a0_0 a0_1 l0_2 t240 t241 t242 t247 t248 t249 t253 t254 t255 = some r) ∧ Aside0 (kq ≤ k) ∧ Aside0 (Kd.R k40 40 wc w.heap.size (fun k_ => some k_ ≠ ((.slice Ao30 t249.length co30) : Value).ownBlock ∧ some k_ ≠ ((.slice Ao37 t255.length co37) : Value).ownBlock) (.slice Ao23 t242.length co23) t242) ∧ Aside0 (Kd.R k40 40 wc w.heap.size (fun k_ => some k_ ≠ ((.slice Ao23 t242.length co23) : Value).ownBlock ∧ some k_ ≠ ((.slice Ao37 t255.length co37) : Value).ownBlock) (.slice Ao30 t249.length co30) t249) ∧ Aside0 (Kd.R k40 40 wc w.heap.size (fun k_ => some k_ ≠ ((.slice Ao23 t242.length co23) : Value).ownBlock ∧ some k_ ≠ ((.slice Ao30 t249.length co30) : Value).ownBlock) (.slice Ao37 t255.length co37) t255) ∧ Aside0 (wc.heap[gb233]? = some (.cells #[.int .i64 a0_0, .int .i64 a0_1, (.slice A0_2 l0_2.length c0_2)] 24 (0, 0))) ∧ Aside0 (wc.heap[gb246]? = some (.cells #[.int .i64 t240, .int .i64 t241, (.slice Ao23 t242.length co23)] 29 (0, 0))) ∧ Aside0 (wc.heap[gb252]? = some (.cells #[.int .i64 t247, .int .i64 t248, (.slice Ao30 t249.length co30)] 29 (0, 0))) ∧ Aside0 (wc.heap[gb259]? = some (.cells #[.int .i64 t253, .int .i64 t254, (.slice Ao37 t255.length co37)] 29 (0, 0))) ∧ Aside0 (Below w.heap.size w wc))
  case first =>
   have H := HC12.out
   clear HC12
   replace H := Option.bind_eq_some_iff.mp H
   obtain ⟨t260, A380, H⟩ := H
   replace H : (if t260 = true then (laws_FnExactTableJoin.j0 k a1 t245 t258 (t258 != t245) a0_0 a0_1 l0_2 t240 t241 t242 t247 t248 t249 t253 t254 t255) else (laws_FnExactTableJoin.j0 k a1 t245 t258 true a0_0 a0_1 l0_2 t240 t241 t242 t247 t248 t249 t253 t254 t255)) = some r := H
   have A38 := Aside0.mk A380
   clear A380
   by_cases c39 : t260 = true
   ·subst c39
    have H1 : (laws_FnExactTableJoin.j0 k a1 t245 t258 (t258 != t245) a0_0 a0_1 l0_2 t240 t241 t242 t247 t248 t249 t253 t254 t255) = some r := by rw [if_pos rfl] at H; exact H
    clear H
    have H := H1
    clear H1
    have H' := Aside0.mk H
    clear H
    have hnb40 := NB259_233.out
    have hnc40 := NB233_259.out
    have hnb41 := NB259_246.out
    have hnc41 := NB246_259.out
    have hnb42 := NB259_252.out
    have hnc42 := NB252_259.out
    have hcz43_0 : w32.cell? ⟨gb259, 0, none⟩ = some (.int .i64 0) := cl BK259.out 0 rfl
    have hcz43_1 : w32.cell? ⟨gb259, 1, none⟩ = some (.int .i64 0) := cl BK259.out 1 rfl
    have hcz43_2 : w32.cell? ⟨gb259, 2, none⟩ = some (.slice none 0 0) := cl BK259.out 2 rfl
    have hfz43_0 := fz BK259.out 0
    have hfz43_1 := fz BK259.out 1
    have hfz43_2 := fz BK259.out 2
    have hnb44 := NB246_233.out
    have hnc44 := NB233_246.out
    have hnb45 := NB246_252.out
    have hnc45 := NB252_246.out
    have hcz46_0 : w32.cell? ⟨gb246, 0, none⟩ = some (.int .i64 t240) := cl BK246.out 0 rfl
    have hcz46_1 : w32.cell? ⟨gb246, 1, none⟩ = some (.int .i64 t241) := cl BK246.out 1 rfl
    have hcz46_2 : w32.cell? ⟨gb246, 2, none⟩ = some (.slice Ao23 t242.length co23) := cl BK246.out 2 rfl
    have hfz46_0 := fz BK246.out 0
    have hfz46_1 := fz BK246.out 1
    have hfz46_2 := fz BK246.out 2
    go_wp2_with (first | ((with_reducible refine gate_callee (f := 21) rfl ?_); refine goesL_ (some 38) rfl rfl Try.func21 (by kernel_rfl) rfl #[.agg #[.int .i64 t253, .int .i64 t254, .slice Ao37 t255.length co37], .agg #[.int .i64 t240, .int .i64 t241, .slice Ao23 t242.length co23]] rfl (by (try simp only [List.map_toArray, List.map_cons, List.map_nil]); first | done | rfl | (simp only [List.length_drop, List.length_take]; rfl)) ?_; (with_reducible refine (laws_eqTable.calls k t253 t254 _ _ t255 t240 t241 _ _ t242 true _ ?side1 ?side2 ?side3 ?side4 A38.out).mono ?_); (case side1 => refine (Kd.R_reads' (e := 40) (base := w.heap.size) (ok := fun k_ => (((True ∧ some k_ ≠ (.slice Ao18 t237.length co18 : Value).ownBlock) ∧ some k_ ≠ (.slice Ao23 t242.length co23 : Value).ownBlock) ∧ some k_ ≠ (.slice Ao30 t249.length co30 : Value).ownBlock)) (n := t255.length) (c := co37) ?_).2.2; exact (by (with_reducible repeat (first | apply Kd.R_alloc | apply Kd.R_drewN | apply Kd.R_drew)); exact (Kd.R_mono (rF (rF (rF (Kd.R_types HO257.out BK259.out (by decide)) _ _) _ _) _ _) (fun _ h_ => h_.1)))); (case side2 => exact (Kd.R_reads' HO257.out).2.1); (case side3 => refine (Kd.R_reads' (e := 40) (base := w.heap.size) (ok := fun k_ => (((True ∧ some k_ ≠ (.slice Ao18 t237.length co18 : Value).ownBlock) ∧ some k_ ≠ (.slice Ao30 t249.length co30 : Value).ownBlock) ∧ some k_ ≠ (.slice Ao37 t255.length co37 : Value).ownBlock)) (n := t242.length) (c := co23) ?_).2.2; exact (by (with_reducible repeat (first | apply Kd.R_alloc | apply Kd.R_drewN | apply Kd.R_drew)); exact (Kd.R_mono (rF (rF (rF (Kd.R_types HO244.out BK259.out (by decide)) _ _) _ _) _ _) (fun _ h_ => h_.1)))); (case side4 => exact (Kd.R_reads' HO244.out).2.1); rintro e w47 ⟨rfl, hb⟩; refine ⟨_, rfl, ?_⟩; have n0_ := Aside0.mk (Kd.R_below (by (with_reducible repeat (first | apply Kd.R_alloc | apply Kd.R_drewN | apply Kd.R_drew)); exact (Kd.R_mono (rF (rF (rF (Kd.R_types HO239.out BK259.out (by decide)) _ _) _ _) _ _) (fun _ h_ => h_.1))) hb); have n1_ := Aside0.mk (Kd.R_below (by (with_reducible repeat (first | apply Kd.R_alloc | apply Kd.R_drewN | apply Kd.R_drew)); exact (Kd.R_mono (rF (rF (rF (Kd.R_types HO244.out BK259.out (by decide)) _ _) _ _) _ _) (fun _ h_ => h_.1))) hb); have n2_ := Aside0.mk (Kd.R_below (by (with_reducible repeat (first | apply Kd.R_alloc | apply Kd.R_drewN | apply Kd.R_drew)); exact (Kd.R_mono (rF (rF (rF (Kd.R_types HO251.out BK259.out (by decide)) _ _) _ _) _ _) (fun _ h_ => h_.1))) hb); have n3_ := Aside0.mk (Kd.R_below (by (with_reducible repeat (first | apply Kd.R_alloc | apply Kd.R_drewN | apply Kd.R_drew)); exact (Kd.R_mono (rF (rF (rF (Kd.R_types HO257.out BK259.out (by decide)) _ _) _ _) _ _) (fun _ h_ => h_.1))) hb); have n4_ := Aside0.mk (blk_below (g := gb233) (o := .cells #[.int .i64 a0_0, .int .i64 a0_1, .slice A0_2 l0_2.length c0_2] 24 (0, 0)) (by (with_reducible repeat (first | refine blk_drewN ?_ _ | refine blk_drew ?_ | refine blk_alloc ?_ _)); refine blk_far ?_ NB233_259.out _; (with_reducible repeat (first | refine blk_drewN ?_ _ | refine blk_drew ?_ | refine blk_alloc ?_ _)); refine blk_far ?_ NB233_259.out _; (with_reducible repeat (first | refine blk_drewN ?_ _ | refine blk_drew ?_ | refine blk_alloc ?_ _)); refine blk_far ?_ NB233_259.out _; (with_reducible repeat (first | refine blk_drewN ?_ _ | refine blk_drew ?_ | refine blk_alloc ?_ _)); exact BK233.out) hb); have n5_ := Aside0.mk (blk_below (g := gb246) (o := .cells #[.int .i64 t240, .int .i64 t241, .slice Ao23 t242.length co23] 29 (0, 0)) (by (with_reducible repeat (first | refine blk_drewN ?_ _ | refine blk_drew ?_ | refine blk_alloc ?_ _)); refine blk_far ?_ NB246_259.out _; (with_reducible repeat (first | refine blk_drewN ?_ _ | refine blk_drew ?_ | refine blk_alloc ?_ _)); refine blk_far ?_ NB246_259.out _; (with_reducible repeat (first | refine blk_drewN ?_ _ | refine blk_drew ?_ | refine blk_alloc ?_ _)); refine blk_far ?_ NB246_259.out _; (with_reducible repeat (first | refine blk_drewN ?_ _ | refine blk_drew ?_ | refine blk_alloc ?_ _)); exact BK246.out) hb); have n6_ := Aside0.mk (blk_below (g := gb252) (o := .cells #[.int .i64 t247, .int .i64 t248, .slice Ao30 t249.length co30] 29 (0, 0)) (by (with_reducible repeat (first | refine blk_drewN ?_ _ | refine blk_drew ?_ | refine blk_alloc ?_ _)); refine blk_far ?_ NB252_259.out _; (with_reducible repeat (first | refine blk_drewN ?_ _ | refine blk_drew ?_ | refine blk_alloc ?_ _)); refine blk_far ?_ NB252_259.out _; (with_reducible repeat (first | refine blk_drewN ?_ _ | refine blk_drew ?_ | refine blk_alloc ?_ _)); refine blk_far ?_ NB252_259.out _; (with_reducible repeat (first | refine blk_drewN ?_ _ | refine blk_drew ?_ | refine blk_alloc ?_ _)); exact BK252.out) hb); have n7_ := Aside0.mk (blk_below (g := gb259) (o := .cells #[.int .i64 t253, .int .i64 t254, .slice Ao37 t255.length co37] 29 (0, 0)) (by (with_reducible repeat (first | refine blk_drewN ?_ _ | refine blk_drew ?_ | refine blk_alloc ?_ _)); refine blk_put (cs := #[.int .i64 t253, .int .i64 t254, .slice none 0 0]) ?_ 2 _ rfl; (with_reducible repeat (first | refine blk_drewN ?_ _ | refine blk_drew ?_ | refine blk_alloc ?_ _)); refine blk_put (cs := #[.int .i64 t253, .int .i64 0, .slice none 0 0]) ?_ 1 _ rfl; (with_reducible repeat (first | refine blk_drewN ?_ _ | refine blk_drew ?_ | refine blk_alloc ?_ _)); refine blk_put (cs := #[.int .i64 0, .int .i64 0, .slice none 0 0]) ?_ 0 _ rfl; (with_reducible repeat (first | refine blk_drewN ?_ _ | refine blk_drew ?_ | refine blk_alloc ?_ _)); exact BK259.out) hb); have n8_ := Aside0.mk (below_step (by repeat (first | (with_reducible first | exact HB.out | apply ba | apply bn | apply bd | refine bt ?_ GE233.out | refine bt ?_ GE246.out | refine bt ?_ GE252.out | refine bt ?_ GE259.out) | exact HB.out)) hb); clear HO239; clear HO244; clear HO251; clear HO257; clear BK233; clear BK246; clear BK252; clear BK259; clear HB; have HO239 := n0_; have HO244 := n1_; have HO251 := n2_; have HO257 := n3_; have BK233 := n4_; have BK246 := n5_; have BK252 := n6_; have BK259 := n7_; have HB := n8_; clear n0_ n1_ n2_ n3_ n4_ n5_ n6_ n7_ n8_; (try clear hb); (try clear hb2); (try clear hk); (try clear hi)))
    go_meet
    case rel => exact ⟨_, ((t258 != t245)), (by first | rfl | (simp; done) | (simp [*]; done)), H', ⟨by first | omega | exact Nat.le_refl _⟩, ⟨by (with_reducible repeat (first | apply Kd.R_alloc | apply Kd.R_drewN | apply Kd.R_drew)); exact Kd.R_mono HO244.out (fun _ hk => ⟨hk.1.2, hk.2⟩)⟩, ⟨by (with_reducible repeat (first | apply Kd.R_alloc | apply Kd.R_drewN | apply Kd.R_drew)); exact Kd.R_mono HO251.out (fun _ hk => ⟨hk.1.2, hk.2⟩)⟩, ⟨by (with_reducible repeat (first | apply Kd.R_alloc | apply Kd.R_drewN | apply Kd.R_drew)); exact Kd.R_mono HO257.out (fun _ hk => ⟨hk.1.2, hk.2⟩)⟩, ⟨by (with_reducible repeat (first | refine blk_drewN ?_ _ | refine blk_drew ?_ | refine blk_alloc ?_ _)); exact BK233.out⟩, ⟨by (with_reducible repeat (first | refine blk_drewN ?_ _ | refine blk_drew ?_ | refine blk_alloc ?_ _)); exact BK246.out⟩, ⟨by (with_reducible repeat (first | refine blk_drewN ?_ _ | refine blk_drew ?_ | refine blk_alloc ?_ _)); exact BK252.out⟩, ⟨by (with_reducible repeat (first | refine blk_drewN ?_ _ | refine blk_drew ?_ | refine blk_alloc ?_ _)); exact BK259.out⟩, ⟨by repeat (first | (with_reducible first | exact HB.out | apply ba | apply bn | apply bd | refine bt ?_ GE233.out | refine bt ?_ GE246.out | refine bt ?_ GE252.out | refine bt ?_ GE259.out) | exact HB.out)⟩⟩
   ·replace c39 := Bool.eq_false_iff.mpr c39
    subst c39
    have H1 : (laws_FnExactTableJoin.j0 k a1 t245 t258 true a0_0 a0_1 l0_2 t240 t241 t242 t247 t248 t249 t253 t254 t255) = some r := by rw [if_neg (show ¬ (false = true) by decide)] at H; exact H
    clear H
    have H := H1
    clear H1
    have H' := Aside0.mk H
    clear H
    have hnb48 := NB259_233.out
    have hnc48 := NB233_259.out
    have hnb49 := NB259_246.out
    have hnc49 := NB246_259.out
    have hnb50 := NB259_252.out
    have hnc50 := NB252_259.out
    have hcz51_0 : w32.cell? ⟨gb259, 0, none⟩ = some (.int .i64 0) := cl BK259.out 0 rfl
    have hcz51_1 : w32.cell? ⟨gb259, 1, none⟩ = some (.int .i64 0) := cl BK259.out 1 rfl
    have hcz51_2 : w32.cell? ⟨gb259, 2, none⟩ = some (.slice none 0 0) := cl BK259.out 2 rfl
    have hfz51_0 := fz BK259.out 0
    have hfz51_1 := fz BK259.out 1
    have hfz51_2 := fz BK259.out 2
    have hnb52 := NB246_233.out
    have hnc52 := NB233_246.out
    have hnb53 := NB246_252.out
    have hnc53 := NB252_246.out
    have hcz54_0 : w32.cell? ⟨gb246, 0, none⟩ = some (.int .i64 t240) := cl BK246.out 0 rfl
    have hcz54_1 : w32.cell? ⟨gb246, 1, none⟩ = some (.int .i64 t241) := cl BK246.out 1 rfl
    have hcz54_2 : w32.cell? ⟨gb246, 2, none⟩ = some (.slice Ao23 t242.length co23) := cl BK246.out 2 rfl
    have hfz54_0 := fz BK246.out 0
    have hfz54_1 := fz BK246.out 1
    have hfz54_2 := fz BK246.out 2
    go_wp2_with (first | ((with_reducible refine gate_callee (f := 21) rfl ?_); refine goesL_ (some 38) rfl rfl Try.func21 (by kernel_rfl) rfl #[.agg #[.int .i64 t253, .int .i64 t254, .slice Ao37 t255.length co37], .agg #[.int .i64 t240, .int .i64 t241, .slice Ao23 t242.length co23]] rfl (by (try simp only [List.map_toArray, List.map_cons, List.map_nil]); first | done | rfl | (simp only [List.length_drop, List.length_take]; rfl)) ?_; (with_reducible refine (laws_eqTable.calls k t253 t254 _ _ t255 t240 t241 _ _ t242 false _ ?side1 ?side2 ?side3 ?side4 A38.out).mono ?_); (case side1 => refine (Kd.R_reads' (e := 40) (base := w.heap.size) (ok := fun k_ => (((True ∧ some k_ ≠ (.slice Ao18 t237.length co18 : Value).ownBlock) ∧ some k_ ≠ (.slice Ao23 t242.length co23 : Value).ownBlock) ∧ some k_ ≠ (.slice Ao30 t249.length co30 : Value).ownBlock)) (n := t255.length) (c := co37) ?_).2.2; exact (by (with_reducible repeat (first | apply Kd.R_alloc | apply Kd.R_drewN | apply Kd.R_drew)); exact (Kd.R_mono (rF (rF (rF (Kd.R_types HO257.out BK259.out (by decide)) _ _) _ _) _ _) (fun _ h_ => h_.1)))); (case side2 => exact (Kd.R_reads' HO257.out).2.1); (case side3 => refine (Kd.R_reads' (e := 40) (base := w.heap.size) (ok := fun k_ => (((True ∧ some k_ ≠ (.slice Ao18 t237.length co18 : Value).ownBlock) ∧ some k_ ≠ (.slice Ao30 t249.length co30 : Value).ownBlock) ∧ some k_ ≠ (.slice Ao37 t255.length co37 : Value).ownBlock)) (n := t242.length) (c := co23) ?_).2.2; exact (by (with_reducible repeat (first | apply Kd.R_alloc | apply Kd.R_drewN | apply Kd.R_drew)); exact (Kd.R_mono (rF (rF (rF (Kd.R_types HO244.out BK259.out (by decide)) _ _) _ _) _ _) (fun _ h_ => h_.1)))); (case side4 => exact (Kd.R_reads' HO244.out).2.1); rintro e w55 ⟨rfl, hb⟩; refine ⟨_, rfl, ?_⟩; have n0_ := Aside0.mk (Kd.R_below (by (with_reducible repeat (first | apply Kd.R_alloc | apply Kd.R_drewN | apply Kd.R_drew)); exact (Kd.R_mono (rF (rF (rF (Kd.R_types HO239.out BK259.out (by decide)) _ _) _ _) _ _) (fun _ h_ => h_.1))) hb); have n1_ := Aside0.mk (Kd.R_below (by (with_reducible repeat (first | apply Kd.R_alloc | apply Kd.R_drewN | apply Kd.R_drew)); exact (Kd.R_mono (rF (rF (rF (Kd.R_types HO244.out BK259.out (by decide)) _ _) _ _) _ _) (fun _ h_ => h_.1))) hb); have n2_ := Aside0.mk (Kd.R_below (by (with_reducible repeat (first | apply Kd.R_alloc | apply Kd.R_drewN | apply Kd.R_drew)); exact (Kd.R_mono (rF (rF (rF (Kd.R_types HO251.out BK259.out (by decide)) _ _) _ _) _ _) (fun _ h_ => h_.1))) hb); have n3_ := Aside0.mk (Kd.R_below (by (with_reducible repeat (first | apply Kd.R_alloc | apply Kd.R_drewN | apply Kd.R_drew)); exact (Kd.R_mono (rF (rF (rF (Kd.R_types HO257.out BK259.out (by decide)) _ _) _ _) _ _) (fun _ h_ => h_.1))) hb); have n4_ := Aside0.mk (blk_below (g := gb233) (o := .cells #[.int .i64 a0_0, .int .i64 a0_1, .slice A0_2 l0_2.length c0_2] 24 (0, 0)) (by (with_reducible repeat (first | refine blk_drewN ?_ _ | refine blk_drew ?_ | refine blk_alloc ?_ _)); refine blk_far ?_ NB233_259.out _; (with_reducible repeat (first | refine blk_drewN ?_ _ | refine blk_drew ?_ | refine blk_alloc ?_ _)); refine blk_far ?_ NB233_259.out _; (with_reducible repeat (first | refine blk_drewN ?_ _ | refine blk_drew ?_ | refine blk_alloc ?_ _)); refine blk_far ?_ NB233_259.out _; (with_reducible repeat (first | refine blk_drewN ?_ _ | refine blk_drew ?_ | refine blk_alloc ?_ _)); exact BK233.out) hb); have n5_ := Aside0.mk (blk_below (g := gb246) (o := .cells #[.int .i64 t240, .int .i64 t241, .slice Ao23 t242.length co23] 29 (0, 0)) (by (with_reducible repeat (first | refine blk_drewN ?_ _ | refine blk_drew ?_ | refine blk_alloc ?_ _)); refine blk_far ?_ NB246_259.out _; (with_reducible repeat (first | refine blk_drewN ?_ _ | refine blk_drew ?_ | refine blk_alloc ?_ _)); refine blk_far ?_ NB246_259.out _; (with_reducible repeat (first | refine blk_drewN ?_ _ | refine blk_drew ?_ | refine blk_alloc ?_ _)); refine blk_far ?_ NB246_259.out _; (with_reducible repeat (first | refine blk_drewN ?_ _ | refine blk_drew ?_ | refine blk_alloc ?_ _)); exact BK246.out) hb); have n6_ := Aside0.mk (blk_below (g := gb252) (o := .cells #[.int .i64 t247, .int .i64 t248, .slice Ao30 t249.length co30] 29 (0, 0)) (by (with_reducible repeat (first | refine blk_drewN ?_ _ | refine blk_drew ?_ | refine blk_alloc ?_ _)); refine blk_far ?_ NB252_259.out _; (with_reducible repeat (first | refine blk_drewN ?_ _ | refine blk_drew ?_ | refine blk_alloc ?_ _)); refine blk_far ?_ NB252_259.out _; (with_reducible repeat (first | refine blk_drewN ?_ _ | refine blk_drew ?_ | refine blk_alloc ?_ _)); refine blk_far ?_ NB252_259.out _; (with_reducible repeat (first | refine blk_drewN ?_ _ | refine blk_drew ?_ | refine blk_alloc ?_ _)); exact BK252.out) hb); have n7_ := Aside0.mk (blk_below (g := gb259) (o := .cells #[.int .i64 t253, .int .i64 t254, .slice Ao37 t255.length co37] 29 (0, 0)) (by (with_reducible repeat (first | refine blk_drewN ?_ _ | refine blk_drew ?_ | refine blk_alloc ?_ _)); refine blk_put (cs := #[.int .i64 t253, .int .i64 t254, .slice none 0 0]) ?_ 2 _ rfl; (with_reducible repeat (first | refine blk_drewN ?_ _ | refine blk_drew ?_ | refine blk_alloc ?_ _)); refine blk_put (cs := #[.int .i64 t253, .int .i64 0, .slice none 0 0]) ?_ 1 _ rfl; (with_reducible repeat (first | refine blk_drewN ?_ _ | refine blk_drew ?_ | refine blk_alloc ?_ _)); refine blk_put (cs := #[.int .i64 0, .int .i64 0, .slice none 0 0]) ?_ 0 _ rfl; (with_reducible repeat (first | refine blk_drewN ?_ _ | refine blk_drew ?_ | refine blk_alloc ?_ _)); exact BK259.out) hb); have n8_ := Aside0.mk (below_step (by repeat (first | (with_reducible first | exact HB.out | apply ba | apply bn | apply bd | refine bt ?_ GE233.out | refine bt ?_ GE246.out | refine bt ?_ GE252.out | refine bt ?_ GE259.out) | exact HB.out)) hb); clear HO239; clear HO244; clear HO251; clear HO257; clear BK233; clear BK246; clear BK252; clear BK259; clear HB; have HO239 := n0_; have HO244 := n1_; have HO251 := n2_; have HO257 := n3_; have BK233 := n4_; have BK246 := n5_; have BK252 := n6_; have BK259 := n7_; have HB := n8_; clear n0_ n1_ n2_ n3_ n4_ n5_ n6_ n7_ n8_; (try clear hb); (try clear hb2); (try clear hk); (try clear hi)))
    go_meet
    case rel => exact ⟨_, (true), (by first | rfl | (simp; done) | (simp [*]; done)), H', ⟨by first | omega | exact Nat.le_refl _⟩, ⟨by (with_reducible repeat (first | apply Kd.R_alloc | apply Kd.R_drewN | apply Kd.R_drew)); exact Kd.R_mono HO244.out (fun _ hk => ⟨hk.1.2, hk.2⟩)⟩, ⟨by (with_reducible repeat (first | apply Kd.R_alloc | apply Kd.R_drewN | apply Kd.R_drew)); exact Kd.R_mono HO251.out (fun _ hk => ⟨hk.1.2, hk.2⟩)⟩, ⟨by (with_reducible repeat (first | apply Kd.R_alloc | apply Kd.R_drewN | apply Kd.R_drew)); exact Kd.R_mono HO257.out (fun _ hk => ⟨hk.1.2, hk.2⟩)⟩, ⟨by (with_reducible repeat (first | refine blk_drewN ?_ _ | refine blk_drew ?_ | refine blk_alloc ?_ _)); exact BK233.out⟩, ⟨by (with_reducible repeat (first | refine blk_drewN ?_ _ | refine blk_drew ?_ | refine blk_alloc ?_ _)); exact BK246.out⟩, ⟨by (with_reducible repeat (first | refine blk_drewN ?_ _ | refine blk_drew ?_ | refine blk_alloc ?_ _)); exact BK252.out⟩, ⟨by (with_reducible repeat (first | refine blk_drewN ?_ _ | refine blk_drew ?_ | refine blk_alloc ?_ _)); exact BK259.out⟩, ⟨by repeat (first | (with_reducible first | exact HB.out | apply ba | apply bn | apply bd | refine bt ?_ GE233.out | refine bt ?_ GE246.out | refine bt ?_ GE252.out | refine bt ?_ GE259.out) | exact HB.out)⟩⟩
  case rest =>
   clear HC12
   try clear c1
   try clear c2
   try clear p2
   try clear c3
   try clear c4
   try clear c4b0
   try clear c5
   try clear c17
   try clear c19
   try clear c21
   try clear c24
   try clear c25
   try clear c27
   try clear c28
   try clear c33
   try clear c34
   try clear c35
   try clear c39
   try clear c40
   try clear c41
   try clear c42
   try clear c44
   try clear c45
   try clear c48
   try clear c49
   try clear c50
   try clear c52
   try clear c53
   try clear hcz14_0
   try clear hcz14_1
   try clear hcz14_2
   try clear hcz16_0
   try clear hcz16_1
   try clear hcz16_2
   try clear hcz22_0
   try clear hcz22_1
   try clear hcz22_2
   try clear hcz24_0
   try clear hcz24_1
   try clear hcz24_2
   try clear hcz29_0
   try clear hcz29_1
   try clear hcz29_2
   try clear hcz36_0
   try clear hcz36_1
   try clear hcz36_2
   try clear hcz43_0
   try clear hcz43_1
   try clear hcz43_2
   try clear hcz46_0
   try clear hcz46_1
   try clear hcz46_2
   try clear hcz51_0
   try clear hcz51_1
   try clear hcz51_2
   try clear hcz54_0
   try clear hcz54_1
   try clear hcz54_2
   try clear hcz6_0
   try clear hcz6_1
   try clear hcz6_2
   try clear hfz14_0
   try clear hfz14_1
   try clear hfz14_2
   try clear hfz16_0
   try clear hfz16_1
   try clear hfz16_2
   try clear hfz22_0
   try clear hfz22_1
   try clear hfz22_2
   try clear hfz24_0
   try clear hfz24_1
   try clear hfz24_2
   try clear hfz29_0
   try clear hfz29_1
   try clear hfz29_2
   try clear hfz36_0
   try clear hfz36_1
   try clear hfz36_2
   try clear hfz43_0
   try clear hfz43_1
   try clear hfz43_2
   try clear hfz46_0
   try clear hfz46_1
   try clear hfz46_2
   try clear hfz51_0
   try clear hfz51_1
   try clear hfz51_2
   try clear hfz54_0
   try clear hfz54_1
   try clear hfz54_2
   try clear hfz6_0
   try clear hfz6_1
   try clear hfz6_2
   obtain ⟨kq, x44_11, rfl, HA, HJ11, HO_247002, HO_253002, HO_260002, BK233, BK246, BK252, BK259, HB⟩ := hcut
   cases kq with
   | zero => exact absurd HA.out (by simp [laws_FnExactTableJoin.j0])
   | succ kj11 =>
    have H := HA.out
    clear HA
    simp only [laws_FnExactTableJoin.j0] at H
    by_cases c56 : x44_11 = true
    ·subst c56
     have H1 : (some false) = some r := by rw [if_pos rfl] at H; exact H
     clear H
     have H := H1
     clear H1
     exact absurd (Option.some.inj H) (by rw [HTR.out]; decide)
    ·replace c56 := Bool.eq_false_iff.mpr c56
     subst c56
     have H1 : ((laws_toTable.f kj11 a0_0 a0_1 l0_2).bind fun bt261 => ((laws_eqTable.f kj11 t247 t248 t249 bt261.1 bt261.2.1 bt261.2.2).bind fun t266 => (if t266 = true then ((laws_markTable.f kj11 t247 t248 t249 1).bind fun bt267 => (if bt267.1 < 0 then (laws_FnExactTableJoin.j1 kj11 a1 t245 true a0_0 a0_1 l0_2 t240 t241 t242 t253 t254 t255) else ((laws_eqTable.f kj11 t253 t254 t255 t240 t241 t242).bind fun t269 => (if t269 = true then (laws_FnExactTableJoin.j1 kj11 a1 t245 (t258 != t245) a0_0 a0_1 l0_2 t240 t241 t242 t253 t254 t255) else (laws_FnExactTableJoin.j1 kj11 a1 t245 true a0_0 a0_1 l0_2 t240 t241 t242 t253 t254 t255))))) else (some false)))) = some r := by rw [if_neg (show ¬ (false = true) by decide)] at H; exact H
     clear H
     have H := H1
     clear H1
     replace H := Option.bind_eq_some_iff.mp H
     obtain ⟨⟨t261, t262, t263⟩, A570, H⟩ := H
     replace H : ((laws_eqTable.f kj11 t247 t248 t249 t261 t262 t263).bind fun t266 => (if t266 = true then ((laws_markTable.f kj11 t247 t248 t249 1).bind fun bt267 => (if bt267.1 < 0 then (laws_FnExactTableJoin.j1 kj11 a1 t245 true a0_0 a0_1 l0_2 t240 t241 t242 t253 t254 t255) else ((laws_eqTable.f kj11 t253 t254 t255 t240 t241 t242).bind fun t269 => (if t269 = true then (laws_FnExactTableJoin.j1 kj11 a1 t245 (t258 != t245) a0_0 a0_1 l0_2 t240 t241 t242 t253 t254 t255) else (laws_FnExactTableJoin.j1 kj11 a1 t245 true a0_0 a0_1 l0_2 t240 t241 t242 t253 t254 t255))))) else (some false))) = some r := H
     have A57 := Aside0.mk A570
     clear A570
     replace H := Option.bind_eq_some_iff.mp H
     obtain ⟨t266, A580, H⟩ := H
     replace H : (if t266 = true then ((laws_markTable.f kj11 t247 t248 t249 1).bind fun bt267 => (if bt267.1 < 0 then (laws_FnExactTableJoin.j1 kj11 a1 t245 true a0_0 a0_1 l0_2 t240 t241 t242 t253 t254 t255) else ((laws_eqTable.f kj11 t253 t254 t255 t240 t241 t242).bind fun t269 => (if t269 = true then (laws_FnExactTableJoin.j1 kj11 a1 t245 (t258 != t245) a0_0 a0_1 l0_2 t240 t241 t242 t253 t254 t255) else (laws_FnExactTableJoin.j1 kj11 a1 t245 true a0_0 a0_1 l0_2 t240 t241 t242 t253 t254 t255))))) else (some false)) = some r := H
     have A58 := Aside0.mk A580
     clear A580
     by_cases c59 : t266 = true
     ·subst c59
      have H1 : ((laws_markTable.f kj11 t247 t248 t249 1).bind fun bt267 => (if bt267.1 < 0 then (laws_FnExactTableJoin.j1 kj11 a1 t245 true a0_0 a0_1 l0_2 t240 t241 t242 t253 t254 t255) else ((laws_eqTable.f kj11 t253 t254 t255 t240 t241 t242).bind fun t269 => (if t269 = true then (laws_FnExactTableJoin.j1 kj11 a1 t245 (t258 != t245) a0_0 a0_1 l0_2 t240 t241 t242 t253 t254 t255) else (laws_FnExactTableJoin.j1 kj11 a1 t245 true a0_0 a0_1 l0_2 t240 t241 t242 t253 t254 t255))))) = some r := by rw [if_pos rfl] at H; exact H
      clear H
      have H := H1
      clear H1
      replace H := Option.bind_eq_some_iff.mp H
      obtain ⟨⟨t267, t268⟩, A600, H⟩ := H
      replace H : (if t267 < 0 then (laws_FnExactTableJoin.j1 kj11 a1 t245 true a0_0 a0_1 l0_2 t240 t241 t242 t253 t254 t255) else ((laws_eqTable.f kj11 t253 t254 t255 t240 t241 t242).bind fun t269 => (if t269 = true then (laws_FnExactTableJoin.j1 kj11 a1 t245 (t258 != t245) a0_0 a0_1 l0_2 t240 t241 t242 t253 t254 t255) else (laws_FnExactTableJoin.j1 kj11 a1 t245 true a0_0 a0_1 l0_2 t240 t241 t242 t253 t254 t255)))) = some r := H
      have A60 := Aside0.mk A600
      clear A600
      have HC61 := Aside0.mk H
      clear H
      try go_wp2
      have n0_ := Aside0.mk (Kd.R_drew HO_247002.out)
      have n1_ := Aside0.mk (Kd.R_drew HO_253002.out)
      have n2_ := Aside0.mk (Kd.R_drew HO_260002.out)
      have n3_ := Aside0.mk (blk_drew BK233.out)
      have n4_ := Aside0.mk (blk_drew BK246.out)
      have n5_ := Aside0.mk (blk_drew BK252.out)
      have n6_ := Aside0.mk (blk_drew BK259.out)
      have n7_ := Aside0.mk (below_drew1 HB.out)
      clear HO_247002
      clear HO_253002
      clear HO_260002
      clear BK233
      clear BK246
      clear BK252
      clear BK259
      clear HB
      have HO_247002 := n0_
      have HO_253002 := n1_
      have HO_260002 := n2_
      have BK233 := n3_
      have BK246 := n4_
      have BK252 := n5_
      have BK259 := n6_
      have HB := n7_
      clear n0_ n1_ n2_ n3_ n4_ n5_ n6_ n7_
      refine start_ (n := 5) (S := fun w' => w'.cell? ⟨gb252, 0, none⟩ = some (.int .i64 t247) ∧ w'.cell? ⟨gb252, 1, none⟩ = some (.int .i64 t248) ∧ w'.cell? ⟨gb252, 2, none⟩ = some (.slice Ao30 t249.length co30) ∧ w'.cell? ⟨gb233, 0, none⟩ = some (.int .i64 a0_0) ∧ w'.cell? ⟨gb233, 1, none⟩ = some (.int .i64 a0_1) ∧ w'.cell? ⟨gb233, 2, none⟩ = some (.slice A0_2 l0_2.length c0_2)) (ds := []) #[false, false, false, false, false] (by kernel_rfl) rfl rfl ⟨cl BK252.out 0 rfl, cl BK252.out 1 rfl, cl BK252.out 2 rfl, cl BK233.out 0 rfl, cl BK233.out 1 rfl, cl BK233.out 2 rfl⟩ (fun hHeld => ?_)
      generalize wc.drew = w62 at HO_247002 HO_253002 HO_260002 BK233 BK246 BK252 BK259 HB hHeld ⊢
      refine take_ (i := 0) (N := some 45) (v := ?_) (a' := ?_) #[true, false, false, false, false] rfl rfl (by kernel_rfl) (fun _ _ _ h => h) (Or.inl ⟨by rfl, ?_⟩) hHeld ?_ ?_
      rotate_left
      ·rintro w' ⟨s0, s1, s2, s3, s4, s5⟩
       go_simp
       with_reducible rfl
      rotate_left
      ·simp only [Act.put, List.setIfInBounds_toArray, List.set_cons_zero, List.set_cons_succ, i64_w, i32_w]
       rfl
      refine take_ (i := 1) (N := some 46) (v := ?_) (a' := ?_) #[true, true, false, false, false] rfl rfl (by kernel_rfl) (fun _ _ _ h => h) (Or.inl ⟨by rfl, ?_⟩) hHeld ?_ ?_
      rotate_left
      ·rintro w' ⟨s0, s1, s2, s3, s4, s5⟩
       go_simp
       with_reducible rfl
      rotate_left
      ·simp only [Act.put, List.setIfInBounds_toArray, List.set_cons_zero, List.set_cons_succ, i64_w, i32_w]
       rfl
      refine one_ (i := 2) (N := some 47) #[true, true, true, false, false] rfl rfl (by kernel_rfl) (by decide) (fun K hK => ?_)
      refine goes_ Try.func19 (by kernel_rfl) rfl #[.agg #[.int .i64 a0_0, .int .i64 a0_1, .slice A0_2 l0_2.length c0_2]] (by rfl) rfl rfl (by (try simp only [List.map_toArray, List.map_cons, List.map_nil]); first | done | rfl | (simp only [List.length_drop, List.length_take]; rfl)) ?_
      with_reducible refine (laws_toTable.calls kj11 a0_0 a0_1 _ _ l0_2 t261 t262 t263 _ ?side1 ?side2 A57.out).mono ?_
      (case side1 => repeat (first | exact (Kd.C_below HR0_2.out HB.out) | (with_reducible refine Kd.C_alloc ?_ _) | (with_reducible refine Kd.C_drewN ?_ _) | (with_reducible refine Kd.C_drew ?_)))
      (case side2 => exact HC0_2.out)
      rintro e w63 ⟨v264, rfl, ho0, hb⟩
      refine ⟨_, rfl, ?_⟩
      have n0_ := Aside0.mk (Kd.R_elder' (by (with_reducible repeat (first | apply Kd.R_alloc | apply Kd.R_drewN | apply Kd.R_drew)); exact HO_247002.out) (Kd.R_base ho0) hb)
      have n1_ := Aside0.mk (Kd.R_elder' (by (with_reducible repeat (first | apply Kd.R_alloc | apply Kd.R_drewN | apply Kd.R_drew)); exact HO_253002.out) (Kd.R_base ho0) hb)
      have n2_ := Aside0.mk (Kd.R_elder' (by (with_reducible repeat (first | apply Kd.R_alloc | apply Kd.R_drewN | apply Kd.R_drew)); exact HO_260002.out) (Kd.R_base ho0) hb)
      have n3_ := Aside0.mk (Kd.R_lower (Kd.R_new' (Kd.R_new' (Kd.R_new' ho0 (Kd.R_lt (by (with_reducible repeat (first | apply Kd.R_alloc | apply Kd.R_drewN | apply Kd.R_drew)); exact HO_247002.out))) (Kd.R_lt (by (with_reducible repeat (first | apply Kd.R_alloc | apply Kd.R_drewN | apply Kd.R_drew)); exact HO_253002.out))) (Kd.R_lt (by (with_reducible repeat (first | apply Kd.R_alloc | apply Kd.R_drewN | apply Kd.R_drew)); exact HO_260002.out))) (below_size (by repeat (first | (with_reducible first | exact HB.out | apply ba | apply bn | apply bd | refine bt ?_ GE233.out | refine bt ?_ GE246.out | refine bt ?_ GE252.out | refine bt ?_ GE259.out) | exact HB.out))))
      have n4_ := Aside0.mk (blk_below (g := gb233) (o := .cells #[.int .i64 a0_0, .int .i64 a0_1, .slice A0_2 l0_2.length c0_2] 24 (0, 0)) (by (with_reducible repeat (first | refine blk_drewN ?_ _ | refine blk_drew ?_ | refine blk_alloc ?_ _)); exact BK233.out) hb)
      have n5_ := Aside0.mk (blk_below (g := gb246) (o := .cells #[.int .i64 t240, .int .i64 t241, .slice Ao23 t242.length co23] 29 (0, 0)) (by (with_reducible repeat (first | refine blk_drewN ?_ _ | refine blk_drew ?_ | refine blk_alloc ?_ _)); exact BK246.out) hb)
      have n6_ := Aside0.mk (blk_below (g := gb252) (o := .cells #[.int .i64 t247, .int .i64 t248, .slice Ao30 t249.length co30] 29 (0, 0)) (by (with_reducible repeat (first | refine blk_drewN ?_ _ | refine blk_drew ?_ | refine blk_alloc ?_ _)); exact BK252.out) hb)
      have n7_ := Aside0.mk (blk_below (g := gb259) (o := .cells #[.int .i64 t253, .int .i64 t254, .slice Ao37 t255.length co37] 29 (0, 0)) (by (with_reducible repeat (first | refine blk_drewN ?_ _ | refine blk_drew ?_ | refine blk_alloc ?_ _)); exact BK259.out) hb)
      have n8_ := Aside0.mk (below_step (by repeat (first | (with_reducible first | exact HB.out | apply ba | apply bn | apply bd | refine bt ?_ GE233.out | refine bt ?_ GE246.out | refine bt ?_ GE252.out | refine bt ?_ GE259.out) | exact HB.out)) hb)
      clear HO_247002
      clear HO_253002
      clear HO_260002
      clear BK233
      clear BK246
      clear BK252
      clear BK259
      clear HB
      have HO_247002 := n0_
      have HO_253002 := n1_
      have HO_260002 := n2_
      have HO265 := n3_
      have BK233 := n4_
      have BK246 := n5_
      have BK252 := n6_
      have BK259 := n7_
      have HB := n8_
      clear n0_ n1_ n2_ n3_ n4_ n5_ n6_ n7_ n8_
      (try clear hb)
      (try clear hb2)
      (try clear hk)
      (try clear hi)
      (try clear ho0)
      obtain ⟨Ao64, co64, eo64⟩ := Kd.R_slice HO265.out
      (first | subst eo64 | (injection eo64 with f1_ f2_ f3_; have f4_ := f1_.symm; have f5_ := f3_.symm; clear f1_ f2_ f3_; subst f4_; subst f5_))
      refine hK.out _ _ ⟨cl BK252.out 0 rfl, cl BK252.out 1 rfl, cl BK252.out 2 rfl, cl BK233.out 0 rfl, cl BK233.out 1 rfl, cl BK233.out 2 rfl⟩ (fun hHeld => ?_)
      clear hK K
      refine norm_ (a' := ?_) ?_ ?_
      rotate_left
      ·show Act.put _ (some 47) _ = _
       simp only [Act.put, List.setIfInBounds_toArray, List.set_cons_zero, List.set_cons_succ, i64_w, i32_w]
       rfl
      refine one_ (i := 3) (N := some 48) #[true, true, true, true, false] rfl rfl (by kernel_rfl) (by decide) (fun K hK => ?_)
      refine goes_ Try.func21 (by kernel_rfl) rfl #[.agg #[.int .i64 t247, .int .i64 t248, .slice Ao30 t249.length co30], .agg #[.int .i64 t261, .int .i64 t262, .slice Ao64 t263.length co64]] (by rfl) rfl rfl (by (try simp only [List.map_toArray, List.map_cons, List.map_nil]); first | done | rfl | (simp only [List.length_drop, List.length_take]; rfl)) ?_
      with_reducible refine (laws_eqTable.calls kj11 t247 t248 _ _ t249 t261 t262 _ _ t263 true _ ?side1 ?side2 ?side3 ?side4 A58.out).mono ?_
      (case side1 => repeat (first | exact (Kd.R_reads' HO_253002.out).2.2 | (with_reducible refine Kd.C_alloc ?_ _) | (with_reducible refine Kd.C_drewN ?_ _) | (with_reducible refine Kd.C_drew ?_)))
      (case side2 => exact (Kd.R_reads' HO_253002.out).2.1)
      (case side3 => repeat (first | exact (Kd.R_reads' HO265.out).2.2 | (with_reducible refine Kd.C_alloc ?_ _) | (with_reducible refine Kd.C_drewN ?_ _) | (with_reducible refine Kd.C_drew ?_)))
      (case side4 => exact (Kd.R_reads' HO265.out).2.1)
      rintro e w65 ⟨rfl, hb⟩
      refine ⟨_, rfl, ?_⟩
      have n0_ := Aside0.mk (Kd.R_below (by (with_reducible repeat (first | apply Kd.R_alloc | apply Kd.R_drewN | apply Kd.R_drew)); exact HO_247002.out) hb)
      have n1_ := Aside0.mk (Kd.R_below (by (with_reducible repeat (first | apply Kd.R_alloc | apply Kd.R_drewN | apply Kd.R_drew)); exact HO_253002.out) hb)
      have n2_ := Aside0.mk (Kd.R_below (by (with_reducible repeat (first | apply Kd.R_alloc | apply Kd.R_drewN | apply Kd.R_drew)); exact HO_260002.out) hb)
      have n3_ := Aside0.mk (Kd.R_below (by (with_reducible repeat (first | apply Kd.R_alloc | apply Kd.R_drewN | apply Kd.R_drew)); exact HO265.out) hb)
      have n4_ := Aside0.mk (blk_below (g := gb233) (o := .cells #[.int .i64 a0_0, .int .i64 a0_1, .slice A0_2 l0_2.length c0_2] 24 (0, 0)) (by (with_reducible repeat (first | refine blk_drewN ?_ _ | refine blk_drew ?_ | refine blk_alloc ?_ _)); exact BK233.out) hb)
      have n5_ := Aside0.mk (blk_below (g := gb246) (o := .cells #[.int .i64 t240, .int .i64 t241, .slice Ao23 t242.length co23] 29 (0, 0)) (by (with_reducible repeat (first | refine blk_drewN ?_ _ | refine blk_drew ?_ | refine blk_alloc ?_ _)); exact BK246.out) hb)
      have n6_ := Aside0.mk (blk_below (g := gb252) (o := .cells #[.int .i64 t247, .int .i64 t248, .slice Ao30 t249.length co30] 29 (0, 0)) (by (with_reducible repeat (first | refine blk_drewN ?_ _ | refine blk_drew ?_ | refine blk_alloc ?_ _)); exact BK252.out) hb)
      have n7_ := Aside0.mk (blk_below (g := gb259) (o := .cells #[.int .i64 t253, .int .i64 t254, .slice Ao37 t255.length co37] 29 (0, 0)) (by (with_reducible repeat (first | refine blk_drewN ?_ _ | refine blk_drew ?_ | refine blk_alloc ?_ _)); exact BK259.out) hb)
      have n8_ := Aside0.mk (below_step (by repeat (first | (with_reducible first | exact HB.out | apply ba | apply bn | apply bd | refine bt ?_ GE233.out | refine bt ?_ GE246.out | refine bt ?_ GE252.out | refine bt ?_ GE259.out) | exact HB.out)) hb)
      clear HO_247002
      clear HO_253002
      clear HO_260002
      clear HO265
      clear BK233
      clear BK246
      clear BK252
      clear BK259
      clear HB
      have HO_247002 := n0_
      have HO_253002 := n1_
      have HO_260002 := n2_
      have HO265 := n3_
      have BK233 := n4_
      have BK246 := n5_
      have BK252 := n6_
      have BK259 := n7_
      have HB := n8_
      clear n0_ n1_ n2_ n3_ n4_ n5_ n6_ n7_ n8_
      (try clear hb)
      (try clear hb2)
      (try clear hk)
      (try clear hi)
      refine hK.out _ _ ⟨cl BK252.out 0 rfl, cl BK252.out 1 rfl, cl BK252.out 2 rfl, cl BK233.out 0 rfl, cl BK233.out 1 rfl, cl BK233.out 2 rfl⟩ (fun hHeld => ?_)
      clear hK K
      refine norm_ (a' := ?_) ?_ ?_
      rotate_left
      ·show Act.put _ (some 48) _ = _
       simp only [Act.put, List.setIfInBounds_toArray, List.set_cons_zero, List.set_cons_succ, i64_w, i32_w]
       rfl
      refine pure_ (i := 4) (N := some 49) (v := ?_) (a' := ?_) #[true, true, true, true, true] rfl rfl (by kernel_rfl) (fun _ _ _ h => h) (Or.inl ⟨by rfl, ?_⟩) ?_ ?_
      rotate_left
      ·intro w'
       go_simp
       with_reducible rfl
      rotate_left
      ·simp only [Act.put, List.setIfInBounds_toArray, List.set_cons_zero, List.set_cons_succ, i64_w, i32_w]
       rfl
      refine done_ (by kernel_rfl) ?_
      have hnb66 := NB252_233.out
      have hnc66 := NB233_252.out
      have hnb67 := NB252_246.out
      have hnc67 := NB246_252.out
      have hnb68 := NB252_259.out
      have hnc68 := NB259_252.out
      have hcz69_0 : w65.cell? ⟨gb252, 0, none⟩ = some (.int .i64 t247) := cl BK252.out 0 rfl
      have hcz69_1 : w65.cell? ⟨gb252, 1, none⟩ = some (.int .i64 t248) := cl BK252.out 1 rfl
      have hcz69_2 : w65.cell? ⟨gb252, 2, none⟩ = some (.slice Ao30 t249.length co30) := cl BK252.out 2 rfl
      have hfz69_0 := fz BK252.out 0
      have hfz69_1 := fz BK252.out 1
      have hfz69_2 := fz BK252.out 2
      go_upto_region 14 with (first | ((with_reducible refine gate_callee (f := 26) rfl ?_); refine goesL_ (some 52) rfl rfl Try.func26 (by kernel_rfl) rfl #[.agg #[.int .i64 t247, .int .i64 t248, .slice Ao30 t249.length co30], .int .i64 1] rfl (by (try simp only [List.map_toArray, List.map_cons, List.map_nil]); first | done | rfl | (simp only [List.length_drop, List.length_take]; rfl)) ?_; (with_reducible refine (laws_markTable.calls kj11 t247 t248 (fun k_ => some k_ = (.slice Ao30 t249.length co30 : Value).ownBlock) (.slice Ao30 t249.length co30) t249 1 t267 t268 w _ ?side1 ?side2 A60.out).mono ?_); (case side1 => repeat (first | (with_reducible first | exact HB.out | apply ba | apply bn | apply bd | refine bt ?_ GE233.out | refine bt ?_ GE246.out | refine bt ?_ GE252.out | refine bt ?_ GE259.out) | exact HB.out)); (case side2 => exact Kd.R_tight rfl HO_253002.out); rintro e w70 ⟨rfl, hy0, hb, hkp⟩; refine ⟨_, rfl, ?_⟩; have n0_ := Aside0.mk (Kd.R_mono (ok' := fun k_ => some k_ ≠ (.slice Ao30 t249.length co30 : Value).ownBlock ∧ some k_ ≠ (.slice Ao37 t255.length co37 : Value).ownBlock ∧ some k_ ≠ (.slice Ao64 t263.length co64 : Value).ownBlock) (Kd.R_keptB (HO_247002.out) hkp (fun k_ hk_ hs_ => (hk_.1.1) hs_)) (fun k_ hk_ => ⟨hk_.1.1.1, hk_.1.1.2, hk_.1.2⟩)); have n1_ := Aside0.mk (Kd.R_reok rfl hy0 (fun k_ e_ => HO_253002.out.1 k_ e_)); have n2_ := Aside0.mk (Kd.R_mono (ok' := fun k_ => some k_ ≠ (.slice Ao23 t242.length co23 : Value).ownBlock ∧ some k_ ≠ (.slice Ao30 t249.length co30 : Value).ownBlock ∧ some k_ ≠ (.slice Ao64 t263.length co64 : Value).ownBlock) (Kd.R_keptB (HO_260002.out) hkp (fun k_ hk_ hs_ => (hk_.1.2) hs_)) (fun k_ hk_ => ⟨hk_.1.1.1, hk_.1.1.2, hk_.1.2⟩)); have n3_ := Aside0.mk (blk_kept (by (with_reducible repeat (first | refine blk_drewN ?_ _ | refine blk_drew ?_ | refine blk_alloc ?_ _)); exact BK233.out) hkp (fun hs_ => (fun e_ => (Kd.R_ne HO_253002.out BK233.out (by decide)) e_) hs_)); have n4_ := Aside0.mk (blk_kept (by (with_reducible repeat (first | refine blk_drewN ?_ _ | refine blk_drew ?_ | refine blk_alloc ?_ _)); exact BK246.out) hkp (fun hs_ => (fun e_ => (Kd.R_ne HO_253002.out BK246.out (by decide)) e_) hs_)); have n5_ := Aside0.mk (blk_kept (by (with_reducible repeat (first | refine blk_drewN ?_ _ | refine blk_drew ?_ | refine blk_alloc ?_ _)); exact BK252.out) hkp (fun hs_ => (fun e_ => (Kd.R_ne HO_253002.out BK252.out (by decide)) e_) hs_)); have n6_ := Aside0.mk (blk_kept (by (with_reducible repeat (first | refine blk_drewN ?_ _ | refine blk_drew ?_ | refine blk_alloc ?_ _)); exact BK259.out) hkp (fun hs_ => (fun e_ => (Kd.R_ne HO_253002.out BK259.out (by decide)) e_) hs_)); have n7_ := Aside0.mk (Kd.R_mono (ok' := fun k_ => some k_ ≠ (.slice Ao23 t242.length co23 : Value).ownBlock ∧ some k_ ≠ (.slice Ao30 t249.length co30 : Value).ownBlock ∧ some k_ ≠ (.slice Ao37 t255.length co37 : Value).ownBlock) (Kd.R_keptB (HO265.out) hkp (fun k_ hk_ hs_ => (hk_.1.2) hs_)) (fun k_ hk_ => ⟨hk_.1.1.1.2, hk_.1.1.2, hk_.1.2⟩)); have n8_ := Aside0.mk (hb); clear HO_247002; clear HO_253002; clear HO_260002; clear BK233; clear BK246; clear BK252; clear BK259; clear HO265; clear HB; have HO_247002 := n0_; have HO_253002 := n1_; have HO_260002 := n2_; have BK233 := n3_; have BK246 := n4_; have BK252 := n5_; have BK259 := n6_; have HO265 := n7_; have HB := n8_; clear n0_ n1_ n2_ n3_ n4_ n5_ n6_ n7_ n8_; (try clear hb); (try clear hkp); (try clear hy0)))
      (try simp only [Act.put, List.setIfInBounds_toArray, List.set_cons_zero, List.set_cons_succ])
      go_cut [65] (fun v65 wc => ∃ (kq : Nat) (x65_60 : Bool), v65 = .bool x65_60 ∧ Aside0 (laws_FnExactTableJoin.j1 kq a1 t245 x65_60 a0_0 a0_1 l0_2 t240 t241 t242 t253 t254 t255 = some r) ∧ Aside0 (kq ≤ kj11) ∧ Aside0 (Kd.R k40 40 wc w.heap.size (fun k_ => some k_ ≠ ((.slice Ao30 t249.length co30) : Value).ownBlock ∧ some k_ ≠ ((.slice Ao37 t255.length co37) : Value).ownBlock) (.slice Ao23 t242.length co23) t242) ∧ Aside0 (Kd.R k40 40 wc w.heap.size (fun k_ => some k_ ≠ ((.slice Ao23 t242.length co23) : Value).ownBlock ∧ some k_ ≠ ((.slice Ao37 t255.length co37) : Value).ownBlock) (.slice Ao30 t249.length co30) t268) ∧ Aside0 (Kd.R k40 40 wc w.heap.size (fun k_ => some k_ ≠ ((.slice Ao23 t242.length co23) : Value).ownBlock ∧ some k_ ≠ ((.slice Ao30 t249.length co30) : Value).ownBlock) (.slice Ao37 t255.length co37) t255) ∧ Aside0 (wc.heap[gb233]? = some (.cells #[.int .i64 a0_0, .int .i64 a0_1, (.slice A0_2 l0_2.length c0_2)] 24 (0, 0))) ∧ Aside0 (wc.heap[gb246]? = some (.cells #[.int .i64 t240, .int .i64 t241, (.slice Ao23 t242.length co23)] 29 (0, 0))) ∧ Aside0 (wc.heap[gb252]? = some (.cells #[.int .i64 t247, .int .i64 t248, (.slice Ao30 t249.length co30)] 29 (0, 0))) ∧ Aside0 (wc.heap[gb259]? = some (.cells #[.int .i64 t253, .int .i64 t254, (.slice Ao37 t255.length co37)] 29 (0, 0))) ∧ Aside0 (Below w.heap.size w wc))
      case first =>
       have H := HC61.out
       clear HC61
       by_cases c71 : t267 < 0
       ·rw [if_pos c71] at H
        have c71b0 : decide (t267 < 0) = true := decide_eq_true c71
        clear c71
        (first | rw [c71b0] | (simp only [i64_w, i32_w]; rw [c71b0]) | skip)
        have H' := Aside0.mk H
        clear H
        go_wp2
        go_meet
        case rel => exact ⟨_, (true), (by first | rfl | (simp; done) | (simp [*]; done)), H', ⟨by have := HJ11.out; first | omega | exact Nat.le_refl _⟩, ⟨by (with_reducible repeat (first | apply Kd.R_alloc | apply Kd.R_drewN | apply Kd.R_drew)); exact Kd.R_mono HO_247002.out (fun _ hk => ⟨hk.1, hk.2.1⟩)⟩, ⟨by (with_reducible repeat (first | apply Kd.R_alloc | apply Kd.R_drewN | apply Kd.R_drew)); exact Kd.R_mono HO_253002.out (fun _ hk => ⟨hk.1.1, hk.1.2⟩)⟩, ⟨by (with_reducible repeat (first | apply Kd.R_alloc | apply Kd.R_drewN | apply Kd.R_drew)); exact Kd.R_mono HO_260002.out (fun _ hk => ⟨hk.1, hk.2.1⟩)⟩, ⟨by (with_reducible repeat (first | refine blk_drewN ?_ _ | refine blk_drew ?_ | refine blk_alloc ?_ _)); exact BK233.out⟩, ⟨by (with_reducible repeat (first | refine blk_drewN ?_ _ | refine blk_drew ?_ | refine blk_alloc ?_ _)); exact BK246.out⟩, ⟨by (with_reducible repeat (first | refine blk_drewN ?_ _ | refine blk_drew ?_ | refine blk_alloc ?_ _)); exact BK252.out⟩, ⟨by (with_reducible repeat (first | refine blk_drewN ?_ _ | refine blk_drew ?_ | refine blk_alloc ?_ _)); exact BK259.out⟩, ⟨by repeat (first | (with_reducible first | exact HB.out | apply ba | apply bn | apply bd | refine bt ?_ GE233.out | refine bt ?_ GE246.out | refine bt ?_ GE252.out | refine bt ?_ GE259.out) | exact HB.out)⟩⟩
       ·rw [if_neg c71] at H
        have c71b0 : decide (t267 < 0) = false := decide_eq_false c71
        clear c71
        (first | rw [c71b0] | (simp only [i64_w, i32_w]; rw [c71b0]) | skip)
        replace H := Option.bind_eq_some_iff.mp H
        obtain ⟨t269, A720, H⟩ := H
        replace H : (if t269 = true then (laws_FnExactTableJoin.j1 kj11 a1 t245 (t258 != t245) a0_0 a0_1 l0_2 t240 t241 t242 t253 t254 t255) else (laws_FnExactTableJoin.j1 kj11 a1 t245 true a0_0 a0_1 l0_2 t240 t241 t242 t253 t254 t255)) = some r := H
        have A72 := Aside0.mk A720
        clear A720
        by_cases c73 : t269 = true
        ·subst c73
         have H1 : (laws_FnExactTableJoin.j1 kj11 a1 t245 (t258 != t245) a0_0 a0_1 l0_2 t240 t241 t242 t253 t254 t255) = some r := by rw [if_pos rfl] at H; exact H
         clear H
         have H := H1
         clear H1
         have H' := Aside0.mk H
         clear H
         have hnb74 := NB259_233.out
         have hnc74 := NB233_259.out
         have hnb75 := NB259_246.out
         have hnc75 := NB246_259.out
         have hnb76 := NB259_252.out
         have hnc76 := NB252_259.out
         have hcz77_0 : w70.cell? ⟨gb259, 0, none⟩ = some (.int .i64 t253) := cl BK259.out 0 rfl
         have hcz77_1 : w70.cell? ⟨gb259, 1, none⟩ = some (.int .i64 t254) := cl BK259.out 1 rfl
         have hcz77_2 : w70.cell? ⟨gb259, 2, none⟩ = some (.slice Ao37 t255.length co37) := cl BK259.out 2 rfl
         have hfz77_0 := fz BK259.out 0
         have hfz77_1 := fz BK259.out 1
         have hfz77_2 := fz BK259.out 2
         have hnb78 := NB246_233.out
         have hnc78 := NB233_246.out
         have hnb79 := NB246_252.out
         have hnc79 := NB252_246.out
         have hcz80_0 : w70.cell? ⟨gb246, 0, none⟩ = some (.int .i64 t240) := cl BK246.out 0 rfl
         have hcz80_1 : w70.cell? ⟨gb246, 1, none⟩ = some (.int .i64 t241) := cl BK246.out 1 rfl
         have hcz80_2 : w70.cell? ⟨gb246, 2, none⟩ = some (.slice Ao23 t242.length co23) := cl BK246.out 2 rfl
         have hfz80_0 := fz BK246.out 0
         have hfz80_1 := fz BK246.out 1
         have hfz80_2 := fz BK246.out 2
         go_wp2_with (first | (go_at_call 21; (with_reducible refine (laws_eqTable.calls kj11 t253 t254 _ _ t255 t240 t241 _ _ t242 true _ ?side1 ?side2 ?side3 ?side4 A72.out).mono ?_); (case side1 => repeat (first | exact (Kd.R_reads' HO_260002.out).2.2 | (with_reducible refine Kd.C_alloc ?_ _) | (with_reducible refine Kd.C_drewN ?_ _) | (with_reducible refine Kd.C_drew ?_))); (case side2 => exact (Kd.R_reads' HO_260002.out).2.1); (case side3 => repeat (first | exact (Kd.R_reads' HO_247002.out).2.2 | (with_reducible refine Kd.C_alloc ?_ _) | (with_reducible refine Kd.C_drewN ?_ _) | (with_reducible refine Kd.C_drew ?_))); (case side4 => exact (Kd.R_reads' HO_247002.out).2.1); rintro e w81 ⟨rfl, hb⟩; have n0_ := Aside0.mk (Kd.R_below (by (with_reducible repeat (first | apply Kd.R_alloc | apply Kd.R_drewN | apply Kd.R_drew)); exact HO_247002.out) hb); have n1_ := Aside0.mk (Kd.R_below (by (with_reducible repeat (first | apply Kd.R_alloc | apply Kd.R_drewN | apply Kd.R_drew)); exact HO_253002.out) hb); have n2_ := Aside0.mk (Kd.R_below (by (with_reducible repeat (first | apply Kd.R_alloc | apply Kd.R_drewN | apply Kd.R_drew)); exact HO_260002.out) hb); have n3_ := Aside0.mk (Kd.R_below (by (with_reducible repeat (first | apply Kd.R_alloc | apply Kd.R_drewN | apply Kd.R_drew)); exact HO265.out) hb); have n4_ := Aside0.mk (blk_below (g := gb233) (o := .cells #[.int .i64 a0_0, .int .i64 a0_1, .slice A0_2 l0_2.length c0_2] 24 (0, 0)) (by (with_reducible repeat (first | refine blk_drewN ?_ _ | refine blk_drew ?_ | refine blk_alloc ?_ _)); exact BK233.out) hb); have n5_ := Aside0.mk (blk_below (g := gb246) (o := .cells #[.int .i64 t240, .int .i64 t241, .slice Ao23 t242.length co23] 29 (0, 0)) (by (with_reducible repeat (first | refine blk_drewN ?_ _ | refine blk_drew ?_ | refine blk_alloc ?_ _)); exact BK246.out) hb); have n6_ := Aside0.mk (blk_below (g := gb252) (o := .cells #[.int .i64 t247, .int .i64 t248, .slice Ao30 t249.length co30] 29 (0, 0)) (by (with_reducible repeat (first | refine blk_drewN ?_ _ | refine blk_drew ?_ | refine blk_alloc ?_ _)); exact BK252.out) hb); have n7_ := Aside0.mk (blk_below (g := gb259) (o := .cells #[.int .i64 t253, .int .i64 t254, .slice Ao37 t255.length co37] 29 (0, 0)) (by (with_reducible repeat (first | refine blk_drewN ?_ _ | refine blk_drew ?_ | refine blk_alloc ?_ _)); exact BK259.out) hb); have n8_ := Aside0.mk (below_step (by repeat (first | (with_reducible first | exact HB.out | apply ba | apply bn | apply bd | refine bt ?_ GE233.out | refine bt ?_ GE246.out | refine bt ?_ GE252.out | refine bt ?_ GE259.out) | exact HB.out)) hb); clear HO_247002; clear HO_253002; clear HO_260002; clear HO265; clear BK233; clear BK246; clear BK252; clear BK259; clear HB; have HO_247002 := n0_; have HO_253002 := n1_; have HO_260002 := n2_; have HO265 := n3_; have BK233 := n4_; have BK246 := n5_; have BK252 := n6_; have BK259 := n7_; have HB := n8_; clear n0_ n1_ n2_ n3_ n4_ n5_ n6_ n7_ n8_; (try clear hb); (try clear hb2); (try clear hk); (try clear hi)))
         go_meet
         case rel => exact ⟨_, ((t258 != t245)), (by first | rfl | (simp; done) | (simp [*]; done)), H', ⟨by have := HJ11.out; first | omega | exact Nat.le_refl _⟩, ⟨by (with_reducible repeat (first | apply Kd.R_alloc | apply Kd.R_drewN | apply Kd.R_drew)); exact Kd.R_mono HO_247002.out (fun _ hk => ⟨hk.1, hk.2.1⟩)⟩, ⟨by (with_reducible repeat (first | apply Kd.R_alloc | apply Kd.R_drewN | apply Kd.R_drew)); exact Kd.R_mono HO_253002.out (fun _ hk => ⟨hk.1.1, hk.1.2⟩)⟩, ⟨by (with_reducible repeat (first | apply Kd.R_alloc | apply Kd.R_drewN | apply Kd.R_drew)); exact Kd.R_mono HO_260002.out (fun _ hk => ⟨hk.1, hk.2.1⟩)⟩, ⟨by (with_reducible repeat (first | refine blk_drewN ?_ _ | refine blk_drew ?_ | refine blk_alloc ?_ _)); exact BK233.out⟩, ⟨by (with_reducible repeat (first | refine blk_drewN ?_ _ | refine blk_drew ?_ | refine blk_alloc ?_ _)); exact BK246.out⟩, ⟨by (with_reducible repeat (first | refine blk_drewN ?_ _ | refine blk_drew ?_ | refine blk_alloc ?_ _)); exact BK252.out⟩, ⟨by (with_reducible repeat (first | refine blk_drewN ?_ _ | refine blk_drew ?_ | refine blk_alloc ?_ _)); exact BK259.out⟩, ⟨by repeat (first | (with_reducible first | exact HB.out | apply ba | apply bn | apply bd | refine bt ?_ GE233.out | refine bt ?_ GE246.out | refine bt ?_ GE252.out | refine bt ?_ GE259.out) | exact HB.out)⟩⟩
        ·replace c73 := Bool.eq_false_iff.mpr c73
         subst c73
         have H1 : (laws_FnExactTableJoin.j1 kj11 a1 t245 true a0_0 a0_1 l0_2 t240 t241 t242 t253 t254 t255) = some r := by rw [if_neg (show ¬ (false = true) by decide)] at H; exact H
         clear H
         have H := H1
         clear H1
         have H' := Aside0.mk H
         clear H
         have hnb82 := NB259_233.out
         have hnc82 := NB233_259.out
         have hnb83 := NB259_246.out
         have hnc83 := NB246_259.out
         have hnb84 := NB259_252.out
         have hnc84 := NB252_259.out
         have hcz85_0 : w70.cell? ⟨gb259, 0, none⟩ = some (.int .i64 t253) := cl BK259.out 0 rfl
         have hcz85_1 : w70.cell? ⟨gb259, 1, none⟩ = some (.int .i64 t254) := cl BK259.out 1 rfl
         have hcz85_2 : w70.cell? ⟨gb259, 2, none⟩ = some (.slice Ao37 t255.length co37) := cl BK259.out 2 rfl
         have hfz85_0 := fz BK259.out 0
         have hfz85_1 := fz BK259.out 1
         have hfz85_2 := fz BK259.out 2
         have hnb86 := NB246_233.out
         have hnc86 := NB233_246.out
         have hnb87 := NB246_252.out
         have hnc87 := NB252_246.out
         have hcz88_0 : w70.cell? ⟨gb246, 0, none⟩ = some (.int .i64 t240) := cl BK246.out 0 rfl
         have hcz88_1 : w70.cell? ⟨gb246, 1, none⟩ = some (.int .i64 t241) := cl BK246.out 1 rfl
         have hcz88_2 : w70.cell? ⟨gb246, 2, none⟩ = some (.slice Ao23 t242.length co23) := cl BK246.out 2 rfl
         have hfz88_0 := fz BK246.out 0
         have hfz88_1 := fz BK246.out 1
         have hfz88_2 := fz BK246.out 2
         go_wp2_with (first | (go_at_call 21; (with_reducible refine (laws_eqTable.calls kj11 t253 t254 _ _ t255 t240 t241 _ _ t242 false _ ?side1 ?side2 ?side3 ?side4 A72.out).mono ?_); (case side1 => repeat (first | exact (Kd.R_reads' HO_260002.out).2.2 | (with_reducible refine Kd.C_alloc ?_ _) | (with_reducible refine Kd.C_drewN ?_ _) | (with_reducible refine Kd.C_drew ?_))); (case side2 => exact (Kd.R_reads' HO_260002.out).2.1); (case side3 => repeat (first | exact (Kd.R_reads' HO_247002.out).2.2 | (with_reducible refine Kd.C_alloc ?_ _) | (with_reducible refine Kd.C_drewN ?_ _) | (with_reducible refine Kd.C_drew ?_))); (case side4 => exact (Kd.R_reads' HO_247002.out).2.1); rintro e w89 ⟨rfl, hb⟩; have n0_ := Aside0.mk (Kd.R_below (by (with_reducible repeat (first | apply Kd.R_alloc | apply Kd.R_drewN | apply Kd.R_drew)); exact HO_247002.out) hb); have n1_ := Aside0.mk (Kd.R_below (by (with_reducible repeat (first | apply Kd.R_alloc | apply Kd.R_drewN | apply Kd.R_drew)); exact HO_253002.out) hb); have n2_ := Aside0.mk (Kd.R_below (by (with_reducible repeat (first | apply Kd.R_alloc | apply Kd.R_drewN | apply Kd.R_drew)); exact HO_260002.out) hb); have n3_ := Aside0.mk (Kd.R_below (by (with_reducible repeat (first | apply Kd.R_alloc | apply Kd.R_drewN | apply Kd.R_drew)); exact HO265.out) hb); have n4_ := Aside0.mk (blk_below (g := gb233) (o := .cells #[.int .i64 a0_0, .int .i64 a0_1, .slice A0_2 l0_2.length c0_2] 24 (0, 0)) (by (with_reducible repeat (first | refine blk_drewN ?_ _ | refine blk_drew ?_ | refine blk_alloc ?_ _)); exact BK233.out) hb); have n5_ := Aside0.mk (blk_below (g := gb246) (o := .cells #[.int .i64 t240, .int .i64 t241, .slice Ao23 t242.length co23] 29 (0, 0)) (by (with_reducible repeat (first | refine blk_drewN ?_ _ | refine blk_drew ?_ | refine blk_alloc ?_ _)); exact BK246.out) hb); have n6_ := Aside0.mk (blk_below (g := gb252) (o := .cells #[.int .i64 t247, .int .i64 t248, .slice Ao30 t249.length co30] 29 (0, 0)) (by (with_reducible repeat (first | refine blk_drewN ?_ _ | refine blk_drew ?_ | refine blk_alloc ?_ _)); exact BK252.out) hb); have n7_ := Aside0.mk (blk_below (g := gb259) (o := .cells #[.int .i64 t253, .int .i64 t254, .slice Ao37 t255.length co37] 29 (0, 0)) (by (with_reducible repeat (first | refine blk_drewN ?_ _ | refine blk_drew ?_ | refine blk_alloc ?_ _)); exact BK259.out) hb); have n8_ := Aside0.mk (below_step (by repeat (first | (with_reducible first | exact HB.out | apply ba | apply bn | apply bd | refine bt ?_ GE233.out | refine bt ?_ GE246.out | refine bt ?_ GE252.out | refine bt ?_ GE259.out) | exact HB.out)) hb); clear HO_247002; clear HO_253002; clear HO_260002; clear HO265; clear BK233; clear BK246; clear BK252; clear BK259; clear HB; have HO_247002 := n0_; have HO_253002 := n1_; have HO_260002 := n2_; have HO265 := n3_; have BK233 := n4_; have BK246 := n5_; have BK252 := n6_; have BK259 := n7_; have HB := n8_; clear n0_ n1_ n2_ n3_ n4_ n5_ n6_ n7_ n8_; (try clear hb); (try clear hb2); (try clear hk); (try clear hi)))
         go_meet
         case rel => exact ⟨_, (true), (by first | rfl | (simp; done) | (simp [*]; done)), H', ⟨by have := HJ11.out; first | omega | exact Nat.le_refl _⟩, ⟨by (with_reducible repeat (first | apply Kd.R_alloc | apply Kd.R_drewN | apply Kd.R_drew)); exact Kd.R_mono HO_247002.out (fun _ hk => ⟨hk.1, hk.2.1⟩)⟩, ⟨by (with_reducible repeat (first | apply Kd.R_alloc | apply Kd.R_drewN | apply Kd.R_drew)); exact Kd.R_mono HO_253002.out (fun _ hk => ⟨hk.1.1, hk.1.2⟩)⟩, ⟨by (with_reducible repeat (first | apply Kd.R_alloc | apply Kd.R_drewN | apply Kd.R_drew)); exact Kd.R_mono HO_260002.out (fun _ hk => ⟨hk.1, hk.2.1⟩)⟩, ⟨by (with_reducible repeat (first | refine blk_drewN ?_ _ | refine blk_drew ?_ | refine blk_alloc ?_ _)); exact BK233.out⟩, ⟨by (with_reducible repeat (first | refine blk_drewN ?_ _ | refine blk_drew ?_ | refine blk_alloc ?_ _)); exact BK246.out⟩, ⟨by (with_reducible repeat (first | refine blk_drewN ?_ _ | refine blk_drew ?_ | refine blk_alloc ?_ _)); exact BK252.out⟩, ⟨by (with_reducible repeat (first | refine blk_drewN ?_ _ | refine blk_drew ?_ | refine blk_alloc ?_ _)); exact BK259.out⟩, ⟨by repeat (first | (with_reducible first | exact HB.out | apply ba | apply bn | apply bd | refine bt ?_ GE233.out | refine bt ?_ GE246.out | refine bt ?_ GE252.out | refine bt ?_ GE259.out) | exact HB.out)⟩⟩
      case rest =>
       clear HC61
       try clear c1
       try clear c2
       try clear p2
       try clear c3
       try clear c4
       try clear c4b0
       try clear c5
       try clear c6
       try clear c7
       try clear c8
       try clear c17
       try clear c19
       try clear c21
       try clear c24
       try clear c25
       try clear c26
       try clear c27
       try clear c28
       try clear c33
       try clear c34
       try clear c35
       try clear c39
       try clear c40
       try clear c41
       try clear c42
       try clear c44
       try clear c45
       try clear c48
       try clear c49
       try clear c50
       try clear c52
       try clear c53
       try clear c56
       try clear c59
       try clear c66
       try clear c67
       try clear c68
       try clear c71
       try clear c71b0
       try clear c73
       try clear c74
       try clear c75
       try clear c76
       try clear c78
       try clear c79
       try clear c82
       try clear c83
       try clear c84
       try clear c86
       try clear c87
       try clear hcz14_0
       try clear hcz14_1
       try clear hcz14_2
       try clear hcz16_0
       try clear hcz16_1
       try clear hcz16_2
       try clear hcz22_0
       try clear hcz22_1
       try clear hcz22_2
       try clear hcz24_0
       try clear hcz24_1
       try clear hcz24_2
       try clear hcz29_0
       try clear hcz29_1
       try clear hcz29_2
       try clear hcz36_0
       try clear hcz36_1
       try clear hcz36_2
       try clear hcz43_0
       try clear hcz43_1
       try clear hcz43_2
       try clear hcz46_0
       try clear hcz46_1
       try clear hcz46_2
       try clear hcz51_0
       try clear hcz51_1
       try clear hcz51_2
       try clear hcz54_0
       try clear hcz54_1
       try clear hcz54_2
       try clear hcz69_0
       try clear hcz69_1
       try clear hcz69_2
       try clear hcz6_0
       try clear hcz6_1
       try clear hcz6_2
       try clear hcz77_0
       try clear hcz77_1
       try clear hcz77_2
       try clear hcz80_0
       try clear hcz80_1
       try clear hcz80_2
       try clear hcz85_0
       try clear hcz85_1
       try clear hcz85_2
       try clear hcz88_0
       try clear hcz88_1
       try clear hcz88_2
       try clear hfz14_0
       try clear hfz14_1
       try clear hfz14_2
       try clear hfz16_0
       try clear hfz16_1
       try clear hfz16_2
       try clear hfz22_0
       try clear hfz22_1
       try clear hfz22_2
       try clear hfz24_0
       try clear hfz24_1
       try clear hfz24_2
       try clear hfz29_0
       try clear hfz29_1
       try clear hfz29_2
       try clear hfz36_0
       try clear hfz36_1
       try clear hfz36_2
       try clear hfz43_0
       try clear hfz43_1
       try clear hfz43_2
       try clear hfz46_0
       try clear hfz46_1
       try clear hfz46_2
       try clear hfz51_0
       try clear hfz51_1
       try clear hfz51_2
       try clear hfz54_0
       try clear hfz54_1
       try clear hfz54_2
       try clear hfz69_0
       try clear hfz69_1
       try clear hfz69_2
       try clear hfz6_0
       try clear hfz6_1
       try clear hfz6_2
       try clear hfz77_0
       try clear hfz77_1
       try clear hfz77_2
       try clear hfz80_0
       try clear hfz80_1
       try clear hfz80_2
       try clear hfz85_0
       try clear hfz85_1
       try clear hfz85_2
       try clear hfz88_0
       try clear hfz88_1
       try clear hfz88_2
       try clear p2
       obtain ⟨kq, x65_60, rfl, HA, HJ60, HO_247002, HO_253002, HO_260002, BK233, BK246, BK252, BK259, HB⟩ := hcut
       have hl253002_60 := (Kd.R_reads' HO_253002.out).1
       rw [hl253002_60] at HO_253002
       (try simp only [hl253002_60])
       (try simp only [hl253002_60] at BK233)
       (try simp only [hl253002_60] at BK246)
       (try simp only [hl253002_60] at BK252)
       (try simp only [hl253002_60] at BK259)
       (try simp only [hl253002_60] at HO_247002)
       (try simp only [hl253002_60] at HO_260002)
       cases kq with
       | zero => exact absurd HA.out (by simp [laws_FnExactTableJoin.j1])
       | succ kj60 =>
        have H := HA.out
        clear HA
        simp only [laws_FnExactTableJoin.j1] at H
        by_cases c90 : x65_60 = true
        ·subst c90
         have H1 : (some false) = some r := by rw [if_pos rfl] at H; exact H
         clear H
         have H := H1
         clear H1
         exact absurd (Option.some.inj H) (by rw [HTR.out]; decide)
        ·replace c90 := Bool.eq_false_iff.mpr c90
         subst c90
         have H1 : ((laws_markTable.f kj60 t253 t254 t255 1).bind fun bt270 => ((laws_heldTable.f kj60 t253 t254 bt270.2 1).bind fun t272 => (if t272 < 0 then (some false) else (if t272 = bt270.1 then ((laws_toTable.f kj60 a0_0 a0_1 l0_2).bind fun bt273 => ((impl_TableJoin.f kj60 bt273.1 bt273.2.1 bt273.2.2 a1).bind fun bt278 => ((laws_eqTable.f kj60 bt278.1 bt278.2.1 bt278.2.2.1 t240 t241 t242).bind fun t285 => (if t285 = true then (laws_FnExactTableJoin.j2 kj60 bt270.1 (bt278.2.2.2 != t245) t253 t254 bt270.2) else (laws_FnExactTableJoin.j2 kj60 bt270.1 true t253 t254 bt270.2))))) else (some false))))) = some r := by rw [if_neg (show ¬ (false = true) by decide)] at H; exact H
         clear H
         have H := H1
         clear H1
         replace H := Option.bind_eq_some_iff.mp H
         obtain ⟨⟨t270, t271⟩, A910, H⟩ := H
         replace H : ((laws_heldTable.f kj60 t253 t254 t271 1).bind fun t272 => (if t272 < 0 then (some false) else (if t272 = t270 then ((laws_toTable.f kj60 a0_0 a0_1 l0_2).bind fun bt273 => ((impl_TableJoin.f kj60 bt273.1 bt273.2.1 bt273.2.2 a1).bind fun bt278 => ((laws_eqTable.f kj60 bt278.1 bt278.2.1 bt278.2.2.1 t240 t241 t242).bind fun t285 => (if t285 = true then (laws_FnExactTableJoin.j2 kj60 t270 (bt278.2.2.2 != t245) t253 t254 t271) else (laws_FnExactTableJoin.j2 kj60 t270 true t253 t254 t271))))) else (some false)))) = some r := H
         have A91 := Aside0.mk A910
         clear A910
         replace H := Option.bind_eq_some_iff.mp H
         obtain ⟨t272, A920, H⟩ := H
         replace H : (if t272 < 0 then (some false) else (if t272 = t270 then ((laws_toTable.f kj60 a0_0 a0_1 l0_2).bind fun bt273 => ((impl_TableJoin.f kj60 bt273.1 bt273.2.1 bt273.2.2 a1).bind fun bt278 => ((laws_eqTable.f kj60 bt278.1 bt278.2.1 bt278.2.2.1 t240 t241 t242).bind fun t285 => (if t285 = true then (laws_FnExactTableJoin.j2 kj60 t270 (bt278.2.2.2 != t245) t253 t254 t271) else (laws_FnExactTableJoin.j2 kj60 t270 true t253 t254 t271))))) else (some false))) = some r := H
         have A92 := Aside0.mk A920
         clear A920
         by_cases c93 : t272 < 0
         ·rw [if_pos c93] at H
          have c93b0 : decide (t272 < 0) = true := decide_eq_true c93
          clear c93
          exact absurd (Option.some.inj H) (by rw [HTR.out]; decide)
         ·rw [if_neg c93] at H
          have c93b0 : decide (t272 < 0) = false := decide_eq_false c93
          clear c93
          by_cases c94 : t272 = t270
          ·rw [if_pos c94] at H
           have c94b0 : (t272 == t270) = true := beq_iff_eq.mpr c94
           have c94b1 : (t272 != t270) = false := bne_eq_false_iff_eq.mpr c94
           clear c94
           replace H := Option.bind_eq_some_iff.mp H
           obtain ⟨⟨t273, t274, t275⟩, A950, H⟩ := H
           replace H : ((impl_TableJoin.f kj60 t273 t274 t275 a1).bind fun bt278 => ((laws_eqTable.f kj60 bt278.1 bt278.2.1 bt278.2.2.1 t240 t241 t242).bind fun t285 => (if t285 = true then (laws_FnExactTableJoin.j2 kj60 t270 (bt278.2.2.2 != t245) t253 t254 t271) else (laws_FnExactTableJoin.j2 kj60 t270 true t253 t254 t271)))) = some r := H
           have A95 := Aside0.mk A950
           clear A950
           replace H := Option.bind_eq_some_iff.mp H
           obtain ⟨⟨t278, t279, t280, t283⟩, A960, H⟩ := H
           replace H : ((laws_eqTable.f kj60 t278 t279 t280 t240 t241 t242).bind fun t285 => (if t285 = true then (laws_FnExactTableJoin.j2 kj60 t270 (t283 != t245) t253 t254 t271) else (laws_FnExactTableJoin.j2 kj60 t270 true t253 t254 t271))) = some r := H
           have A96 := Aside0.mk A960
           clear A960
           have HC97 := Aside0.mk H
           clear H
           have hnb98 := NB259_233.out
           have hnc98 := NB233_259.out
           have hnb99 := NB259_246.out
           have hnc99 := NB246_259.out
           have hnb100 := NB259_252.out
           have hnc100 := NB252_259.out
           have hcz101_0 : wc.cell? ⟨gb259, 0, none⟩ = some (.int .i64 t253) := cl BK259.out 0 rfl
           have hcz101_1 : wc.cell? ⟨gb259, 1, none⟩ = some (.int .i64 t254) := cl BK259.out 1 rfl
           have hcz101_2 : wc.cell? ⟨gb259, 2, none⟩ = some (.slice Ao37 t255.length co37) := cl BK259.out 2 rfl
           have hfz101_0 := fz BK259.out 0
           have hfz101_1 := fz BK259.out 1
           have hfz101_2 := fz BK259.out 2
           go_upto_region 25 with (first | ((with_reducible refine gate_callee (f := 26) rfl ?_); refine goesL_ (some 68) rfl rfl Try.func26 (by kernel_rfl) rfl #[.agg #[.int .i64 t253, .int .i64 t254, .slice Ao37 t255.length co37], .int .i64 1] rfl (by (try simp only [List.map_toArray, List.map_cons, List.map_nil]); first | done | rfl | (simp only [List.length_drop, List.length_take]; rfl)) ?_; (with_reducible refine (laws_markTable.calls kj60 t253 t254 (fun k_ => some k_ = (.slice Ao37 t255.length co37 : Value).ownBlock) (.slice Ao37 t255.length co37) t255 1 t270 t271 w _ ?side1 ?side2 A91.out).mono ?_); (case side1 => repeat (first | (with_reducible first | exact HB.out | apply ba | apply bn | apply bd | refine bt ?_ GE233.out | refine bt ?_ GE246.out | refine bt ?_ GE252.out | refine bt ?_ GE259.out) | exact HB.out)); (case side2 => exact Kd.R_tight rfl HO_260002.out); rintro e w102 ⟨rfl, hy0, hb, hkp⟩; refine ⟨_, rfl, ?_⟩; have n0_ := Aside0.mk (Kd.R_mono (ok' := fun k_ => some k_ ≠ (.slice Ao30 t268.length co30 : Value).ownBlock ∧ some k_ ≠ (.slice Ao37 t255.length co37 : Value).ownBlock) (Kd.R_keptB (HO_247002.out) hkp (fun k_ hk_ hs_ => (hk_.2) hs_)) (fun k_ hk_ => ⟨hk_.1.1, hk_.1.2⟩)); have n1_ := Aside0.mk (Kd.R_mono (ok' := fun k_ => some k_ ≠ (.slice Ao23 t242.length co23 : Value).ownBlock ∧ some k_ ≠ (.slice Ao37 t255.length co37 : Value).ownBlock) (Kd.R_keptB (HO_253002.out) hkp (fun k_ hk_ hs_ => (hk_.2) hs_)) (fun k_ hk_ => ⟨hk_.1.1, hk_.1.2⟩)); have n2_ := Aside0.mk (Kd.R_reok rfl hy0 (fun k_ e_ => HO_260002.out.1 k_ e_)); have n3_ := Aside0.mk (blk_kept (by (with_reducible repeat (first | refine blk_drewN ?_ _ | refine blk_drew ?_ | refine blk_alloc ?_ _)); exact BK233.out) hkp (fun hs_ => (fun e_ => (Kd.R_ne HO_260002.out BK233.out (by decide)) e_) hs_)); have n4_ := Aside0.mk (blk_kept (by (with_reducible repeat (first | refine blk_drewN ?_ _ | refine blk_drew ?_ | refine blk_alloc ?_ _)); exact BK246.out) hkp (fun hs_ => (fun e_ => (Kd.R_ne HO_260002.out BK246.out (by decide)) e_) hs_)); have n5_ := Aside0.mk (blk_kept (by (with_reducible repeat (first | refine blk_drewN ?_ _ | refine blk_drew ?_ | refine blk_alloc ?_ _)); exact BK252.out) hkp (fun hs_ => (fun e_ => (Kd.R_ne HO_260002.out BK252.out (by decide)) e_) hs_)); have n6_ := Aside0.mk (blk_kept (by (with_reducible repeat (first | refine blk_drewN ?_ _ | refine blk_drew ?_ | refine blk_alloc ?_ _)); exact BK259.out) hkp (fun hs_ => (fun e_ => (Kd.R_ne HO_260002.out BK259.out (by decide)) e_) hs_)); have n7_ := Aside0.mk (hb); clear HO_247002; clear HO_253002; clear HO_260002; clear BK233; clear BK246; clear BK252; clear BK259; clear HB; have HO_247002 := n0_; have HO_253002 := n1_; have HO_260002 := n2_; have BK233 := n3_; have BK246 := n4_; have BK252 := n5_; have BK259 := n6_; have HB := n7_; clear n0_ n1_ n2_ n3_ n4_ n5_ n6_ n7_; (try clear hb); (try clear hkp); (try clear hy0); have hcz103_0 : w102.cell? ⟨gb259, 0, none⟩ = some (.int .i64 t253) := cl BK259.out 0 rfl; have hcz103_1 : w102.cell? ⟨gb259, 1, none⟩ = some (.int .i64 t254) := cl BK259.out 1 rfl; have hcz103_2 : w102.cell? ⟨gb259, 2, none⟩ = some (.slice Ao37 t255.length co37) := cl BK259.out 2 rfl; have hfz103_0 := fz BK259.out 0; have hfz103_1 := fz BK259.out 1; have hfz103_2 := fz BK259.out 2) | ((with_reducible refine gate_callee (f := 27) rfl ?_); refine goesL_ (some 71) rfl rfl Try.func27 (by kernel_rfl) rfl #[.agg #[.int .i64 t253, .int .i64 t254, .slice Ao37 t271.length co37], .int .i64 1] rfl (by (try simp only [List.map_toArray, List.map_cons, List.map_nil]); first | done | (rw [show t271.length = t255.length from (Kd.R_reads' HO_260002.out).1.symm] <;> rfl) | rfl | (simp only [List.length_drop, List.length_take]; rfl)) ?_; (with_reducible refine (laws_heldTable.calls kj60 t253 t254 _ _ t271 1 t272 _ ?side1 ?side2 A92.out).mono ?_); (case side1 => repeat (first | exact (Kd.R_reads' HO_260002.out).2.2 | (with_reducible refine Kd.C_alloc ?_ _) | (with_reducible refine Kd.C_drewN ?_ _) | (with_reducible refine Kd.C_drew ?_))); (case side2 => rw [show t271.length = t255.length from (Kd.R_reads' HO_260002.out).1.symm]; exact (Kd.R_reads' HO_260002.out).2.1); rintro e w104 ⟨rfl, hb⟩; refine ⟨_, rfl, ?_⟩; have n0_ := Aside0.mk (Kd.R_below (by (with_reducible repeat (first | apply Kd.R_alloc | apply Kd.R_drewN | apply Kd.R_drew)); exact HO_247002.out) hb); have n1_ := Aside0.mk (Kd.R_below (by (with_reducible repeat (first | apply Kd.R_alloc | apply Kd.R_drewN | apply Kd.R_drew)); exact HO_253002.out) hb); have n2_ := Aside0.mk (Kd.R_below (by (with_reducible repeat (first | apply Kd.R_alloc | apply Kd.R_drewN | apply Kd.R_drew)); exact HO_260002.out) hb); have n3_ := Aside0.mk (blk_below (g := gb233) (o := .cells #[.int .i64 a0_0, .int .i64 a0_1, .slice A0_2 l0_2.length c0_2] 24 (0, 0)) (by (with_reducible repeat (first | refine blk_drewN ?_ _ | refine blk_drew ?_ | refine blk_alloc ?_ _)); exact BK233.out) hb); have n4_ := Aside0.mk (blk_below (g := gb246) (o := .cells #[.int .i64 t240, .int .i64 t241, .slice Ao23 t242.length co23] 29 (0, 0)) (by (with_reducible repeat (first | refine blk_drewN ?_ _ | refine blk_drew ?_ | refine blk_alloc ?_ _)); exact BK246.out) hb); have n5_ := Aside0.mk (blk_below (g := gb252) (o := .cells #[.int .i64 t247, .int .i64 t248, .slice Ao30 t268.length co30] 29 (0, 0)) (by (with_reducible repeat (first | refine blk_drewN ?_ _ | refine blk_drew ?_ | refine blk_alloc ?_ _)); exact BK252.out) hb); have n6_ := Aside0.mk (blk_below (g := gb259) (o := .cells #[.int .i64 t253, .int .i64 t254, .slice Ao37 t255.length co37] 29 (0, 0)) (by (with_reducible repeat (first | refine blk_drewN ?_ _ | refine blk_drew ?_ | refine blk_alloc ?_ _)); exact BK259.out) hb); have n7_ := Aside0.mk (below_step (by repeat (first | (with_reducible first | exact HB.out | apply ba | apply bn | apply bd | refine bt ?_ GE233.out | refine bt ?_ GE246.out | refine bt ?_ GE252.out | refine bt ?_ GE259.out) | exact HB.out)) hb); clear HO_247002; clear HO_253002; clear HO_260002; clear BK233; clear BK246; clear BK252; clear BK259; clear HB; have HO_247002 := n0_; have HO_253002 := n1_; have HO_260002 := n2_; have BK233 := n3_; have BK246 := n4_; have BK252 := n5_; have BK259 := n6_; have HB := n7_; clear n0_ n1_ n2_ n3_ n4_ n5_ n6_ n7_; (try clear hb); (try clear hb2); (try clear hk); (try clear hi); have hnb105 := NB233_246.out; have hnc105 := NB246_233.out; have hnb106 := NB233_252.out; have hnc106 := NB252_233.out; have hcz107_0 : w104.cell? ⟨gb233, 0, none⟩ = some (.int .i64 a0_0) := cl BK233.out 0 rfl; have hcz107_1 : w104.cell? ⟨gb233, 1, none⟩ = some (.int .i64 a0_1) := cl BK233.out 1 rfl; have hcz107_2 : w104.cell? ⟨gb233, 2, none⟩ = some (.slice A0_2 l0_2.length c0_2) := cl BK233.out 2 rfl; have hfz107_0 := fz BK233.out 0; have hfz107_1 := fz BK233.out 1; have hfz107_2 := fz BK233.out 2) | ((with_reducible refine gate_callee (f := 19) rfl ?_); refine goesL_ (some 79) rfl rfl Try.func19 (by kernel_rfl) rfl #[.agg #[.int .i64 a0_0, .int .i64 a0_1, .slice A0_2 l0_2.length c0_2]] rfl (by (try simp only [List.map_toArray, List.map_cons, List.map_nil]); first | done | rfl | (simp only [List.length_drop, List.length_take]; rfl)) ?_; (with_reducible refine (laws_toTable.calls kj60 a0_0 a0_1 _ _ l0_2 t273 t274 t275 _ ?side1 ?side2 A95.out).mono ?_); (case side1 => repeat (first | exact (Kd.C_below HR0_2.out HB.out) | (with_reducible refine Kd.C_alloc ?_ _) | (with_reducible refine Kd.C_drewN ?_ _) | (with_reducible refine Kd.C_drew ?_))); (case side2 => exact HC0_2.out); rintro e w108 ⟨v276, rfl, ho0, hb⟩; refine ⟨_, rfl, ?_⟩; have n0_ := Aside0.mk (Kd.R_elder' (by (with_reducible repeat (first | apply Kd.R_alloc | apply Kd.R_drewN | apply Kd.R_drew)); exact HO_247002.out) (Kd.R_base ho0) hb); have n1_ := Aside0.mk (Kd.R_elder' (by (with_reducible repeat (first | apply Kd.R_alloc | apply Kd.R_drewN | apply Kd.R_drew)); exact HO_253002.out) (Kd.R_base ho0) hb); have n2_ := Aside0.mk (Kd.R_elder' (by (with_reducible repeat (first | apply Kd.R_alloc | apply Kd.R_drewN | apply Kd.R_drew)); exact HO_260002.out) (Kd.R_base ho0) hb); have n3_ := Aside0.mk (Kd.R_lower (Kd.R_new' (Kd.R_new' (Kd.R_new' ho0 (Kd.R_lt (by (with_reducible repeat (first | apply Kd.R_alloc | apply Kd.R_drewN | apply Kd.R_drew)); exact HO_247002.out))) (Kd.R_lt (by (with_reducible repeat (first | apply Kd.R_alloc | apply Kd.R_drewN | apply Kd.R_drew)); exact HO_253002.out))) (Kd.R_lt (by (with_reducible repeat (first | apply Kd.R_alloc | apply Kd.R_drewN | apply Kd.R_drew)); exact HO_260002.out))) (below_size (by repeat (first | (with_reducible first | exact HB.out | apply ba | apply bn | apply bd | refine bt ?_ GE233.out | refine bt ?_ GE246.out | refine bt ?_ GE252.out | refine bt ?_ GE259.out) | exact HB.out)))); have n4_ := Aside0.mk (blk_below (g := gb233) (o := .cells #[.int .i64 a0_0, .int .i64 a0_1, .slice A0_2 l0_2.length c0_2] 24 (0, 0)) (by (with_reducible repeat (first | refine blk_drewN ?_ _ | refine blk_drew ?_ | refine blk_alloc ?_ _)); exact BK233.out) hb); have n5_ := Aside0.mk (blk_below (g := gb246) (o := .cells #[.int .i64 t240, .int .i64 t241, .slice Ao23 t242.length co23] 29 (0, 0)) (by (with_reducible repeat (first | refine blk_drewN ?_ _ | refine blk_drew ?_ | refine blk_alloc ?_ _)); exact BK246.out) hb); have n6_ := Aside0.mk (blk_below (g := gb252) (o := .cells #[.int .i64 t247, .int .i64 t248, .slice Ao30 t268.length co30] 29 (0, 0)) (by (with_reducible repeat (first | refine blk_drewN ?_ _ | refine blk_drew ?_ | refine blk_alloc ?_ _)); exact BK252.out) hb); have n7_ := Aside0.mk (blk_below (g := gb259) (o := .cells #[.int .i64 t253, .int .i64 t254, .slice Ao37 t255.length co37] 29 (0, 0)) (by (with_reducible repeat (first | refine blk_drewN ?_ _ | refine blk_drew ?_ | refine blk_alloc ?_ _)); exact BK259.out) hb); have n8_ := Aside0.mk (below_step (by repeat (first | (with_reducible first | exact HB.out | apply ba | apply bn | apply bd | refine bt ?_ GE233.out | refine bt ?_ GE246.out | refine bt ?_ GE252.out | refine bt ?_ GE259.out) | exact HB.out)) hb); clear HO_247002; clear HO_253002; clear HO_260002; clear BK233; clear BK246; clear BK252; clear BK259; clear HB; have HO_247002 := n0_; have HO_253002 := n1_; have HO_260002 := n2_; have HO277 := n3_; have BK233 := n4_; have BK246 := n5_; have BK252 := n6_; have BK259 := n7_; have HB := n8_; clear n0_ n1_ n2_ n3_ n4_ n5_ n6_ n7_ n8_; (try clear hb); (try clear hb2); (try clear hk); (try clear hi); (try clear ho0); obtain ⟨Ao109, co109, eo109⟩ := Kd.R_slice HO277.out; subst eo109) | ((with_reducible refine gate_callee (f := 25) rfl ?_); refine goesL_ (some 81) rfl rfl Try.func25 (by kernel_rfl) rfl #[.agg #[.int .i64 t273, .int .i64 t274, .slice Ao109 t275.length co109], .int .i64 a1] rfl (by (try simp only [List.map_toArray, List.map_cons, List.map_nil]); first | done | rfl | (simp only [List.length_drop, List.length_take]; rfl)) ?_; (with_reducible refine (impl_TableJoin.calls kj60 t273 t274 _ _ t275 a1 t278 t279 t280 t283 _ ?side1 ?side2 A96.out).mono ?_); (case side1 => repeat (first | exact (Kd.R_reads' HO277.out).2.2 | (with_reducible refine Kd.C_alloc ?_ _) | (with_reducible refine Kd.C_drewN ?_ _) | (with_reducible refine Kd.C_drew ?_))); (case side2 => exact (Kd.R_reads' HO277.out).2.1); rintro e w110 ⟨v281, rfl, ho0, hb⟩; refine ⟨_, rfl, ?_⟩; have n0_ := Aside0.mk (Kd.R_elder' (by (with_reducible repeat (first | apply Kd.R_alloc | apply Kd.R_drewN | apply Kd.R_drew)); exact HO_247002.out) (Kd.R_base ho0) hb); have n1_ := Aside0.mk (Kd.R_elder' (by (with_reducible repeat (first | apply Kd.R_alloc | apply Kd.R_drewN | apply Kd.R_drew)); exact HO_253002.out) (Kd.R_base ho0) hb); have n2_ := Aside0.mk (Kd.R_elder' (by (with_reducible repeat (first | apply Kd.R_alloc | apply Kd.R_drewN | apply Kd.R_drew)); exact HO_260002.out) (Kd.R_base ho0) hb); have n3_ := Aside0.mk (Kd.R_elder' (by (with_reducible repeat (first | apply Kd.R_alloc | apply Kd.R_drewN | apply Kd.R_drew)); exact HO277.out) (Kd.R_base ho0) hb); have n4_ := Aside0.mk (Kd.R_lower (Kd.R_new' (Kd.R_new' (Kd.R_new' (Kd.R_new' ho0 (Kd.R_lt (by (with_reducible repeat (first | apply Kd.R_alloc | apply Kd.R_drewN | apply Kd.R_drew)); exact HO_247002.out))) (Kd.R_lt (by (with_reducible repeat (first | apply Kd.R_alloc | apply Kd.R_drewN | apply Kd.R_drew)); exact HO_253002.out))) (Kd.R_lt (by (with_reducible repeat (first | apply Kd.R_alloc | apply Kd.R_drewN | apply Kd.R_drew)); exact HO_260002.out))) (Kd.R_lt (by (with_reducible repeat (first | apply Kd.R_alloc | apply Kd.R_drewN | apply Kd.R_drew)); exact HO277.out))) (below_size (by repeat (first | (with_reducible first | exact HB.out | apply ba | apply bn | apply bd | refine bt ?_ GE233.out | refine bt ?_ GE246.out | refine bt ?_ GE252.out | refine bt ?_ GE259.out) | exact HB.out)))); have n5_ := Aside0.mk (blk_below (g := gb233) (o := .cells #[.int .i64 a0_0, .int .i64 a0_1, .slice A0_2 l0_2.length c0_2] 24 (0, 0)) (by (with_reducible repeat (first | refine blk_drewN ?_ _ | refine blk_drew ?_ | refine blk_alloc ?_ _)); exact BK233.out) hb); have n6_ := Aside0.mk (blk_below (g := gb246) (o := .cells #[.int .i64 t240, .int .i64 t241, .slice Ao23 t242.length co23] 29 (0, 0)) (by (with_reducible repeat (first | refine blk_drewN ?_ _ | refine blk_drew ?_ | refine blk_alloc ?_ _)); exact BK246.out) hb); have n7_ := Aside0.mk (blk_below (g := gb252) (o := .cells #[.int .i64 t247, .int .i64 t248, .slice Ao30 t268.length co30] 29 (0, 0)) (by (with_reducible repeat (first | refine blk_drewN ?_ _ | refine blk_drew ?_ | refine blk_alloc ?_ _)); exact BK252.out) hb); have n8_ := Aside0.mk (blk_below (g := gb259) (o := .cells #[.int .i64 t253, .int .i64 t254, .slice Ao37 t255.length co37] 29 (0, 0)) (by (with_reducible repeat (first | refine blk_drewN ?_ _ | refine blk_drew ?_ | refine blk_alloc ?_ _)); exact BK259.out) hb); have n9_ := Aside0.mk (below_step (by repeat (first | (with_reducible first | exact HB.out | apply ba | apply bn | apply bd | refine bt ?_ GE233.out | refine bt ?_ GE246.out | refine bt ?_ GE252.out | refine bt ?_ GE259.out) | exact HB.out)) hb); clear HO_247002; clear HO_253002; clear HO_260002; clear HO277; clear BK233; clear BK246; clear BK252; clear BK259; clear HB; have HO_247002 := n0_; have HO_253002 := n1_; have HO_260002 := n2_; have HO277 := n3_; have HO282 := n4_; have BK233 := n5_; have BK246 := n6_; have BK252 := n7_; have BK259 := n8_; have HB := n9_; clear n0_ n1_ n2_ n3_ n4_ n5_ n6_ n7_ n8_ n9_; (try clear hb); (try clear hb2); (try clear hk); (try clear hi); (try clear ho0)) | ((with_reducible refine gate_dst (N := 14) rfl ?_); refine box_event ?hg (N := 14) ?hd (cs := #[.int .i64 0, .int .i64 0, .slice none 0 0]) (t := 29) ?hr ?_; (case hd => rfl); (case hg => rfl); (case hr => first | (go_simp; done) | (go_simp; rfl)); intro gb284 hg w111 hbox hb; have n0_ := Aside0.mk (Kd.R_below (by (with_reducible repeat (first | apply Kd.R_alloc | apply Kd.R_drewN | apply Kd.R_drew)); exact HO_247002.out) hb); have n1_ := Aside0.mk (Kd.R_below (by (with_reducible repeat (first | apply Kd.R_alloc | apply Kd.R_drewN | apply Kd.R_drew)); exact HO_253002.out) hb); have n2_ := Aside0.mk (Kd.R_below (by (with_reducible repeat (first | apply Kd.R_alloc | apply Kd.R_drewN | apply Kd.R_drew)); exact HO_260002.out) hb); have n3_ := Aside0.mk (Kd.R_below (by (with_reducible repeat (first | apply Kd.R_alloc | apply Kd.R_drewN | apply Kd.R_drew)); exact HO277.out) hb); have n4_ := Aside0.mk (Kd.R_below (by (with_reducible repeat (first | apply Kd.R_alloc | apply Kd.R_drewN | apply Kd.R_drew)); exact HO282.out) hb); have n5_ := Aside0.mk (blk_below (g := gb233) (o := .cells #[.int .i64 a0_0, .int .i64 a0_1, .slice A0_2 l0_2.length c0_2] 24 (0, 0)) (by (with_reducible repeat (first | refine blk_drewN ?_ _ | refine blk_drew ?_ | refine blk_alloc ?_ _)); exact BK233.out) hb); have n6_ := Aside0.mk (blk_below (g := gb246) (o := .cells #[.int .i64 t240, .int .i64 t241, .slice Ao23 t242.length co23] 29 (0, 0)) (by (with_reducible repeat (first | refine blk_drewN ?_ _ | refine blk_drew ?_ | refine blk_alloc ?_ _)); exact BK246.out) hb); have n7_ := Aside0.mk (blk_below (g := gb252) (o := .cells #[.int .i64 t247, .int .i64 t248, .slice Ao30 t268.length co30] 29 (0, 0)) (by (with_reducible repeat (first | refine blk_drewN ?_ _ | refine blk_drew ?_ | refine blk_alloc ?_ _)); exact BK252.out) hb); have n8_ := Aside0.mk (blk_below (g := gb259) (o := .cells #[.int .i64 t253, .int .i64 t254, .slice Ao37 t255.length co37] 29 (0, 0)) (by (with_reducible repeat (first | refine blk_drewN ?_ _ | refine blk_drew ?_ | refine blk_alloc ?_ _)); exact BK259.out) hb); have n9_ := Aside0.mk (below_step (by repeat (first | (with_reducible first | exact HB.out | apply ba | apply bn | apply bd | refine bt ?_ GE233.out | refine bt ?_ GE246.out | refine bt ?_ GE252.out | refine bt ?_ GE259.out) | exact HB.out)) hb); have n10_ := Aside0.mk (hbox); have n11_ := Aside0.mk ((by rw [hg]; exact (below_size (by repeat (first | (with_reducible first | exact HB.out | apply ba | apply bn | apply bd | refine bt ?_ GE233.out | refine bt ?_ GE246.out | refine bt ?_ GE252.out | refine bt ?_ GE259.out) | exact HB.out))) : w.heap.size ≤ gb284)); have n12_ := Aside0.mk ((by rw [hg]; exact (below_size (by repeat (first | (with_reducible first | exact HB.out | apply ba | apply bn | apply bd | refine bt ?_ GE233.out | refine bt ?_ GE246.out | refine bt ?_ GE252.out | refine bt ?_ GE259.out) | exact HB.out))) : w.heap.size ≤ gb284)); have n13_ := Aside0.mk ((by rw [hg]; exact Nat.ne_of_lt (blk_lt (g := gb233) (o := .cells #[.int .i64 a0_0, .int .i64 a0_1, .slice A0_2 l0_2.length c0_2] 24 (0, 0)) (by (with_reducible repeat (first | refine blk_drewN ?_ _ | refine blk_drew ?_ | refine blk_alloc ?_ _)); exact BK233.out)) : gb233 ≠ gb284)); have n14_ := Aside0.mk ((by rw [hg]; exact Nat.ne_of_gt (blk_lt (g := gb233) (o := .cells #[.int .i64 a0_0, .int .i64 a0_1, .slice A0_2 l0_2.length c0_2] 24 (0, 0)) (by (with_reducible repeat (first | refine blk_drewN ?_ _ | refine blk_drew ?_ | refine blk_alloc ?_ _)); exact BK233.out)) : gb284 ≠ gb233)); have n15_ := Aside0.mk ((by rw [hg]; exact Nat.ne_of_lt (blk_lt (g := gb246) (o := .cells #[.int .i64 t240, .int .i64 t241, .slice Ao23 t242.length co23] 29 (0, 0)) (by (with_reducible repeat (first | refine blk_drewN ?_ _ | refine blk_drew ?_ | refine blk_alloc ?_ _)); exact BK246.out)) : gb246 ≠ gb284)); have n16_ := Aside0.mk ((by rw [hg]; exact Nat.ne_of_gt (blk_lt (g := gb246) (o := .cells #[.int .i64 t240, .int .i64 t241, .slice Ao23 t242.length co23] 29 (0, 0)) (by (with_reducible repeat (first | refine blk_drewN ?_ _ | refine blk_drew ?_ | refine blk_alloc ?_ _)); exact BK246.out)) : gb284 ≠ gb246)); have n17_ := Aside0.mk ((by rw [hg]; exact Nat.ne_of_lt (blk_lt (g := gb252) (o := .cells #[.int .i64 t247, .int .i64 t248, .slice Ao30 t268.length co30] 29 (0, 0)) (by (with_reducible repeat (first | refine blk_drewN ?_ _ | refine blk_drew ?_ | refine blk_alloc ?_ _)); exact BK252.out)) : gb252 ≠ gb284)); have n18_ := Aside0.mk ((by rw [hg]; exact Nat.ne_of_gt (blk_lt (g := gb252) (o := .cells #[.int .i64 t247, .int .i64 t248, .slice Ao30 t268.length co30] 29 (0, 0)) (by (with_reducible repeat (first | refine blk_drewN ?_ _ | refine blk_drew ?_ | refine blk_alloc ?_ _)); exact BK252.out)) : gb284 ≠ gb252)); have n19_ := Aside0.mk ((by rw [hg]; exact Nat.ne_of_lt (blk_lt (g := gb259) (o := .cells #[.int .i64 t253, .int .i64 t254, .slice Ao37 t255.length co37] 29 (0, 0)) (by (with_reducible repeat (first | refine blk_drewN ?_ _ | refine blk_drew ?_ | refine blk_alloc ?_ _)); exact BK259.out)) : gb259 ≠ gb284)); have n20_ := Aside0.mk ((by rw [hg]; exact Nat.ne_of_gt (blk_lt (g := gb259) (o := .cells #[.int .i64 t253, .int .i64 t254, .slice Ao37 t255.length co37] 29 (0, 0)) (by (with_reducible repeat (first | refine blk_drewN ?_ _ | refine blk_drew ?_ | refine blk_alloc ?_ _)); exact BK259.out)) : gb284 ≠ gb259)); clear HO_247002; clear HO_253002; clear HO_260002; clear HO277; clear HO282; clear BK233; clear BK246; clear BK252; clear BK259; clear HB; have HO_247002 := n0_; have HO_253002 := n1_; have HO_260002 := n2_; have HO277 := n3_; have HO282 := n4_; have BK233 := n5_; have BK246 := n6_; have BK252 := n7_; have BK259 := n8_; have HB := n9_; have BK284 := n10_; have GW284 := n11_; have GE284 := n12_; have NB233_284 := n13_; have NB284_233 := n14_; have NB246_284 := n15_; have NB284_246 := n16_; have NB252_284 := n17_; have NB284_252 := n18_; have NB259_284 := n19_; have NB284_259 := n20_; clear n0_ n1_ n2_ n3_ n4_ n5_ n6_ n7_ n8_ n9_ n10_ n11_ n12_ n13_ n14_ n15_ n16_ n17_ n18_ n19_ n20_; clear hb hbox hg; have hnb112 := NB284_233.out; have hnc112 := NB233_284.out; have hnb113 := NB284_246.out; have hnc113 := NB246_284.out; have hnb114 := NB284_252.out; have hnc114 := NB252_284.out; have hnb115 := NB284_259.out; have hnc115 := NB259_284.out; have hcz116_0 : w111.cell? ⟨gb284, 0, none⟩ = some (.int .i64 0) := cl BK284.out 0 rfl; have hcz116_1 : w111.cell? ⟨gb284, 1, none⟩ = some (.int .i64 0) := cl BK284.out 1 rfl; have hcz116_2 : w111.cell? ⟨gb284, 2, none⟩ = some (.slice none 0 0) := cl BK284.out 2 rfl; have hfz116_0 := fz BK284.out 0; have hfz116_1 := fz BK284.out 1; have hfz116_2 := fz BK284.out 2; obtain ⟨Ao117, co117, eo117⟩ := Kd.R_slice HO282.out; subst eo117))
           (try simp only [Act.put, List.setIfInBounds_toArray, List.set_cons_zero, List.set_cons_succ])
           go_cut [92] (fun v92 wc => ∃ (kq : Nat) (x92_96 : Bool), v92 = .bool x92_96 ∧ Aside0 (laws_FnExactTableJoin.j2 kq t270 x92_96 t253 t254 t271 = some r) ∧ Aside0 (kq ≤ kj60) ∧ Aside0 (Kd.R k40 40 wc w.heap.size (fun k_ => some k_ ≠ ((.slice Ao30 t268.length co30) : Value).ownBlock ∧ some k_ ≠ ((.slice Ao37 t255.length co37) : Value).ownBlock ∧ some k_ ≠ ((.slice Ao117 t280.length co117) : Value).ownBlock) (.slice Ao23 t242.length co23) t242) ∧ Aside0 (Kd.R k40 40 wc w.heap.size (fun k_ => some k_ ≠ ((.slice Ao23 t242.length co23) : Value).ownBlock ∧ some k_ ≠ ((.slice Ao37 t255.length co37) : Value).ownBlock ∧ some k_ ≠ ((.slice Ao117 t280.length co117) : Value).ownBlock) (.slice Ao30 t268.length co30) t268) ∧ Aside0 (Kd.R k40 40 wc w.heap.size (fun k_ => some k_ ≠ ((.slice Ao23 t242.length co23) : Value).ownBlock ∧ some k_ ≠ ((.slice Ao30 t268.length co30) : Value).ownBlock ∧ some k_ ≠ ((.slice Ao117 t280.length co117) : Value).ownBlock) (.slice Ao37 t255.length co37) t271) ∧ Aside0 (Kd.R k40 40 wc w.heap.size (fun k_ => some k_ ≠ ((.slice Ao23 t242.length co23) : Value).ownBlock ∧ some k_ ≠ ((.slice Ao30 t268.length co30) : Value).ownBlock ∧ some k_ ≠ ((.slice Ao37 t255.length co37) : Value).ownBlock) (.slice Ao117 t280.length co117) t280) ∧ Aside0 (wc.heap[gb233]? = some (.cells #[.int .i64 a0_0, .int .i64 a0_1, (.slice A0_2 l0_2.length c0_2)] 24 (0, 0))) ∧ Aside0 (wc.heap[gb246]? = some (.cells #[.int .i64 t240, .int .i64 t241, (.slice Ao23 t242.length co23)] 29 (0, 0))) ∧ Aside0 (wc.heap[gb252]? = some (.cells #[.int .i64 t247, .int .i64 t248, (.slice Ao30 t268.length co30)] 29 (0, 0))) ∧ Aside0 (wc.heap[gb259]? = some (.cells #[.int .i64 t253, .int .i64 t254, (.slice Ao37 t255.length co37)] 29 (0, 0))) ∧ Aside0 (wc.heap[gb284]? = some (.cells #[.int .i64 t278, .int .i64 t279, (.slice Ao117 t280.length co117)] 29 (0, 0))) ∧ Aside0 (Below w.heap.size w wc))
           case first =>
            have H := HC97.out
            clear HC97
            replace H := Option.bind_eq_some_iff.mp H
            obtain ⟨t285, A1180, H⟩ := H
            replace H : (if t285 = true then (laws_FnExactTableJoin.j2 kj60 t270 (t283 != t245) t253 t254 t271) else (laws_FnExactTableJoin.j2 kj60 t270 true t253 t254 t271)) = some r := H
            have A118 := Aside0.mk A1180
            clear A1180
            by_cases c119 : t285 = true
            ·subst c119
             have H1 : (laws_FnExactTableJoin.j2 kj60 t270 (t283 != t245) t253 t254 t271) = some r := by rw [if_pos rfl] at H; exact H
             clear H
             have H := H1
             clear H1
             have H' := Aside0.mk H
             clear H
             have hnb120 := NB284_233.out
             have hnc120 := NB233_284.out
             have hnb121 := NB284_246.out
             have hnc121 := NB246_284.out
             have hnb122 := NB284_252.out
             have hnc122 := NB252_284.out
             have hnb123 := NB284_259.out
             have hnc123 := NB259_284.out
             have hcz124_0 : w111.cell? ⟨gb284, 0, none⟩ = some (.int .i64 0) := cl BK284.out 0 rfl
             have hcz124_1 : w111.cell? ⟨gb284, 1, none⟩ = some (.int .i64 0) := cl BK284.out 1 rfl
             have hcz124_2 : w111.cell? ⟨gb284, 2, none⟩ = some (.slice none 0 0) := cl BK284.out 2 rfl
             have hfz124_0 := fz BK284.out 0
             have hfz124_1 := fz BK284.out 1
             have hfz124_2 := fz BK284.out 2
             have hnb125 := NB246_233.out
             have hnc125 := NB233_246.out
             have hnb126 := NB246_252.out
             have hnc126 := NB252_246.out
             have hnb127 := NB246_259.out
             have hnc127 := NB259_246.out
             have hcz128_0 : w111.cell? ⟨gb246, 0, none⟩ = some (.int .i64 t240) := cl BK246.out 0 rfl
             have hcz128_1 : w111.cell? ⟨gb246, 1, none⟩ = some (.int .i64 t241) := cl BK246.out 1 rfl
             have hcz128_2 : w111.cell? ⟨gb246, 2, none⟩ = some (.slice Ao23 t242.length co23) := cl BK246.out 2 rfl
             have hfz128_0 := fz BK246.out 0
             have hfz128_1 := fz BK246.out 1
             have hfz128_2 := fz BK246.out 2
             go_wp2_with (first | ((with_reducible refine gate_callee (f := 21) rfl ?_); refine goesL_ (some 86) rfl rfl Try.func21 (by kernel_rfl) rfl #[.agg #[.int .i64 t278, .int .i64 t279, .slice Ao117 t280.length co117], .agg #[.int .i64 t240, .int .i64 t241, .slice Ao23 t242.length co23]] rfl (by (try simp only [List.map_toArray, List.map_cons, List.map_nil]); first | done | rfl | (simp only [List.length_drop, List.length_take]; rfl)) ?_; (with_reducible refine (laws_eqTable.calls kj60 t278 t279 _ _ t280 t240 t241 _ _ t242 true _ ?side1 ?side2 ?side3 ?side4 A118.out).mono ?_); (case side1 => refine (Kd.R_reads' (e := 40) (base := w.heap.size) (ok := fun k_ => ((((True ∧ some k_ ≠ (.slice Ao23 t242.length co23 : Value).ownBlock) ∧ some k_ ≠ (.slice Ao30 t268.length co30 : Value).ownBlock) ∧ some k_ ≠ (.slice Ao37 t255.length co37 : Value).ownBlock) ∧ some k_ ≠ (.slice Ao109 t275.length co109 : Value).ownBlock)) (n := t280.length) (c := co117) ?_).2.2; exact (by (with_reducible repeat (first | apply Kd.R_alloc | apply Kd.R_drewN | apply Kd.R_drew)); exact (Kd.R_mono (rF (rF (rF (Kd.R_types HO282.out BK284.out (by decide)) _ _) _ _) _ _) (fun _ h_ => h_.1)))); (case side2 => exact (Kd.R_reads' HO282.out).2.1); (case side3 => refine (Kd.R_reads' (e := 40) (base := w.heap.size) (ok := fun k_ => (((some k_ ≠ (.slice Ao30 t268.length co30 : Value).ownBlock ∧ some k_ ≠ (.slice Ao37 t255.length co37 : Value).ownBlock) ∧ some k_ ≠ (.slice Ao109 t275.length co109 : Value).ownBlock) ∧ some k_ ≠ (.slice Ao117 t280.length co117 : Value).ownBlock)) (n := t242.length) (c := co23) ?_).2.2; exact (by (with_reducible repeat (first | apply Kd.R_alloc | apply Kd.R_drewN | apply Kd.R_drew)); exact (Kd.R_mono (rF (rF (rF (Kd.R_types HO_247002.out BK284.out (by decide)) _ _) _ _) _ _) (fun _ h_ => h_.1)))); (case side4 => exact (Kd.R_reads' HO_247002.out).2.1); rintro e w129 ⟨rfl, hb⟩; refine ⟨_, rfl, ?_⟩; have n0_ := Aside0.mk (Kd.R_below (by (with_reducible repeat (first | apply Kd.R_alloc | apply Kd.R_drewN | apply Kd.R_drew)); exact (Kd.R_mono (rF (rF (rF (Kd.R_types HO_247002.out BK284.out (by decide)) _ _) _ _) _ _) (fun _ h_ => h_.1))) hb); have n1_ := Aside0.mk (Kd.R_below (by (with_reducible repeat (first | apply Kd.R_alloc | apply Kd.R_drewN | apply Kd.R_drew)); exact (Kd.R_mono (rF (rF (rF (Kd.R_types HO_253002.out BK284.out (by decide)) _ _) _ _) _ _) (fun _ h_ => h_.1))) hb); have n2_ := Aside0.mk (Kd.R_below (by (with_reducible repeat (first | apply Kd.R_alloc | apply Kd.R_drewN | apply Kd.R_drew)); exact (Kd.R_mono (rF (rF (rF (Kd.R_types HO_260002.out BK284.out (by decide)) _ _) _ _) _ _) (fun _ h_ => h_.1))) hb); have n3_ := Aside0.mk (Kd.R_below (by (with_reducible repeat (first | apply Kd.R_alloc | apply Kd.R_drewN | apply Kd.R_drew)); exact (Kd.R_mono (rF (rF (rF (Kd.R_types HO277.out BK284.out (by decide)) _ _) _ _) _ _) (fun _ h_ => h_.1))) hb); have n4_ := Aside0.mk (Kd.R_below (by (with_reducible repeat (first | apply Kd.R_alloc | apply Kd.R_drewN | apply Kd.R_drew)); exact (Kd.R_mono (rF (rF (rF (Kd.R_types HO282.out BK284.out (by decide)) _ _) _ _) _ _) (fun _ h_ => h_.1))) hb); have n5_ := Aside0.mk (blk_below (g := gb233) (o := .cells #[.int .i64 a0_0, .int .i64 a0_1, .slice A0_2 l0_2.length c0_2] 24 (0, 0)) (by (with_reducible repeat (first | refine blk_drewN ?_ _ | refine blk_drew ?_ | refine blk_alloc ?_ _)); refine blk_far ?_ NB233_284.out _; (with_reducible repeat (first | refine blk_drewN ?_ _ | refine blk_drew ?_ | refine blk_alloc ?_ _)); refine blk_far ?_ NB233_284.out _; (with_reducible repeat (first | refine blk_drewN ?_ _ | refine blk_drew ?_ | refine blk_alloc ?_ _)); refine blk_far ?_ NB233_284.out _; (with_reducible repeat (first | refine blk_drewN ?_ _ | refine blk_drew ?_ | refine blk_alloc ?_ _)); exact BK233.out) hb); have n6_ := Aside0.mk (blk_below (g := gb246) (o := .cells #[.int .i64 t240, .int .i64 t241, .slice Ao23 t242.length co23] 29 (0, 0)) (by (with_reducible repeat (first | refine blk_drewN ?_ _ | refine blk_drew ?_ | refine blk_alloc ?_ _)); refine blk_far ?_ NB246_284.out _; (with_reducible repeat (first | refine blk_drewN ?_ _ | refine blk_drew ?_ | refine blk_alloc ?_ _)); refine blk_far ?_ NB246_284.out _; (with_reducible repeat (first | refine blk_drewN ?_ _ | refine blk_drew ?_ | refine blk_alloc ?_ _)); refine blk_far ?_ NB246_284.out _; (with_reducible repeat (first | refine blk_drewN ?_ _ | refine blk_drew ?_ | refine blk_alloc ?_ _)); exact BK246.out) hb); have n7_ := Aside0.mk (blk_below (g := gb252) (o := .cells #[.int .i64 t247, .int .i64 t248, .slice Ao30 t268.length co30] 29 (0, 0)) (by (with_reducible repeat (first | refine blk_drewN ?_ _ | refine blk_drew ?_ | refine blk_alloc ?_ _)); refine blk_far ?_ NB252_284.out _; (with_reducible repeat (first | refine blk_drewN ?_ _ | refine blk_drew ?_ | refine blk_alloc ?_ _)); refine blk_far ?_ NB252_284.out _; (with_reducible repeat (first | refine blk_drewN ?_ _ | refine blk_drew ?_ | refine blk_alloc ?_ _)); refine blk_far ?_ NB252_284.out _; (with_reducible repeat (first | refine blk_drewN ?_ _ | refine blk_drew ?_ | refine blk_alloc ?_ _)); exact BK252.out) hb); have n8_ := Aside0.mk (blk_below (g := gb259) (o := .cells #[.int .i64 t253, .int .i64 t254, .slice Ao37 t255.length co37] 29 (0, 0)) (by (with_reducible repeat (first | refine blk_drewN ?_ _ | refine blk_drew ?_ | refine blk_alloc ?_ _)); refine blk_far ?_ NB259_284.out _; (with_reducible repeat (first | refine blk_drewN ?_ _ | refine blk_drew ?_ | refine blk_alloc ?_ _)); refine blk_far ?_ NB259_284.out _; (with_reducible repeat (first | refine blk_drewN ?_ _ | refine blk_drew ?_ | refine blk_alloc ?_ _)); refine blk_far ?_ NB259_284.out _; (with_reducible repeat (first | refine blk_drewN ?_ _ | refine blk_drew ?_ | refine blk_alloc ?_ _)); exact BK259.out) hb); have n9_ := Aside0.mk (blk_below (g := gb284) (o := .cells #[.int .i64 t278, .int .i64 t279, .slice Ao117 t280.length co117] 29 (0, 0)) (by (with_reducible repeat (first | refine blk_drewN ?_ _ | refine blk_drew ?_ | refine blk_alloc ?_ _)); refine blk_put (cs := #[.int .i64 t278, .int .i64 t279, .slice none 0 0]) ?_ 2 _ rfl; (with_reducible repeat (first | refine blk_drewN ?_ _ | refine blk_drew ?_ | refine blk_alloc ?_ _)); refine blk_put (cs := #[.int .i64 t278, .int .i64 0, .slice none 0 0]) ?_ 1 _ rfl; (with_reducible repeat (first | refine blk_drewN ?_ _ | refine blk_drew ?_ | refine blk_alloc ?_ _)); refine blk_put (cs := #[.int .i64 0, .int .i64 0, .slice none 0 0]) ?_ 0 _ rfl; (with_reducible repeat (first | refine blk_drewN ?_ _ | refine blk_drew ?_ | refine blk_alloc ?_ _)); exact BK284.out) hb); have n10_ := Aside0.mk (below_step (by repeat (first | (with_reducible first | exact HB.out | apply ba | apply bn | apply bd | refine bt ?_ GE233.out | refine bt ?_ GE246.out | refine bt ?_ GE252.out | refine bt ?_ GE259.out | refine bt ?_ GE284.out) | exact HB.out)) hb); clear HO_247002; clear HO_253002; clear HO_260002; clear HO277; clear HO282; clear BK233; clear BK246; clear BK252; clear BK259; clear BK284; clear HB; have HO_247002 := n0_; have HO_253002 := n1_; have HO_260002 := n2_; have HO277 := n3_; have HO282 := n4_; have BK233 := n5_; have BK246 := n6_; have BK252 := n7_; have BK259 := n8_; have BK284 := n9_; have HB := n10_; clear n0_ n1_ n2_ n3_ n4_ n5_ n6_ n7_ n8_ n9_ n10_; (try clear hb); (try clear hb2); (try clear hk); (try clear hi)))
             go_meet
             case rel => exact ⟨_, ((t283 != t245)), (by first | rfl | (simp; done) | (simp [*]; done)), H', ⟨by have := HJ11.out; have := HJ60.out; first | omega | exact Nat.le_refl _⟩, ⟨by (try simp only [hl253002_60]); (with_reducible repeat (first | apply Kd.R_alloc | apply Kd.R_drewN | apply Kd.R_drew)); exact Kd.R_mono HO_247002.out (fun _ hk => ⟨hk.1.1.1, ⟨hk.1.1.2, hk.2⟩⟩)⟩, ⟨by (try simp only [hl253002_60]); (with_reducible repeat (first | apply Kd.R_alloc | apply Kd.R_drewN | apply Kd.R_drew)); exact Kd.R_mono HO_253002.out (fun _ hk => ⟨hk.1.1.1, ⟨hk.1.1.2, hk.2⟩⟩)⟩, ⟨by (try simp only [hl253002_60]); (with_reducible repeat (first | apply Kd.R_alloc | apply Kd.R_drewN | apply Kd.R_drew)); exact Kd.R_mono HO_260002.out (fun _ hk => ⟨hk.1.1.1, ⟨hk.1.1.2, hk.2⟩⟩)⟩, ⟨by (try simp only [hl253002_60]); (with_reducible repeat (first | apply Kd.R_alloc | apply Kd.R_drewN | apply Kd.R_drew)); exact Kd.R_mono HO282.out (fun _ hk => ⟨hk.1.1.1.2, ⟨hk.1.1.2, hk.1.2⟩⟩)⟩, ⟨by (try simp only [hl253002_60]); (with_reducible repeat (first | refine blk_drewN ?_ _ | refine blk_drew ?_ | refine blk_alloc ?_ _)); exact BK233.out⟩, ⟨by (try simp only [hl253002_60]); (with_reducible repeat (first | refine blk_drewN ?_ _ | refine blk_drew ?_ | refine blk_alloc ?_ _)); exact BK246.out⟩, ⟨by (try simp only [hl253002_60]); (with_reducible repeat (first | refine blk_drewN ?_ _ | refine blk_drew ?_ | refine blk_alloc ?_ _)); exact BK252.out⟩, ⟨by (try simp only [hl253002_60]); (with_reducible repeat (first | refine blk_drewN ?_ _ | refine blk_drew ?_ | refine blk_alloc ?_ _)); exact BK259.out⟩, ⟨by (try simp only [hl253002_60]); (with_reducible repeat (first | refine blk_drewN ?_ _ | refine blk_drew ?_ | refine blk_alloc ?_ _)); exact BK284.out⟩, ⟨by repeat (first | (with_reducible first | exact HB.out | apply ba | apply bn | apply bd | refine bt ?_ GE233.out | refine bt ?_ GE246.out | refine bt ?_ GE252.out | refine bt ?_ GE259.out | refine bt ?_ GE284.out) | exact HB.out)⟩⟩
            ·replace c119 := Bool.eq_false_iff.mpr c119
             subst c119
             have H1 : (laws_FnExactTableJoin.j2 kj60 t270 true t253 t254 t271) = some r := by rw [if_neg (show ¬ (false = true) by decide)] at H; exact H
             clear H
             have H := H1
             clear H1
             have H' := Aside0.mk H
             clear H
             have hnb130 := NB284_233.out
             have hnc130 := NB233_284.out
             have hnb131 := NB284_246.out
             have hnc131 := NB246_284.out
             have hnb132 := NB284_252.out
             have hnc132 := NB252_284.out
             have hnb133 := NB284_259.out
             have hnc133 := NB259_284.out
             have hcz134_0 : w111.cell? ⟨gb284, 0, none⟩ = some (.int .i64 0) := cl BK284.out 0 rfl
             have hcz134_1 : w111.cell? ⟨gb284, 1, none⟩ = some (.int .i64 0) := cl BK284.out 1 rfl
             have hcz134_2 : w111.cell? ⟨gb284, 2, none⟩ = some (.slice none 0 0) := cl BK284.out 2 rfl
             have hfz134_0 := fz BK284.out 0
             have hfz134_1 := fz BK284.out 1
             have hfz134_2 := fz BK284.out 2
             have hnb135 := NB246_233.out
             have hnc135 := NB233_246.out
             have hnb136 := NB246_252.out
             have hnc136 := NB252_246.out
             have hnb137 := NB246_259.out
             have hnc137 := NB259_246.out
             have hcz138_0 : w111.cell? ⟨gb246, 0, none⟩ = some (.int .i64 t240) := cl BK246.out 0 rfl
             have hcz138_1 : w111.cell? ⟨gb246, 1, none⟩ = some (.int .i64 t241) := cl BK246.out 1 rfl
             have hcz138_2 : w111.cell? ⟨gb246, 2, none⟩ = some (.slice Ao23 t242.length co23) := cl BK246.out 2 rfl
             have hfz138_0 := fz BK246.out 0
             have hfz138_1 := fz BK246.out 1
             have hfz138_2 := fz BK246.out 2
             go_wp2_with (first | ((with_reducible refine gate_callee (f := 21) rfl ?_); refine goesL_ (some 86) rfl rfl Try.func21 (by kernel_rfl) rfl #[.agg #[.int .i64 t278, .int .i64 t279, .slice Ao117 t280.length co117], .agg #[.int .i64 t240, .int .i64 t241, .slice Ao23 t242.length co23]] rfl (by (try simp only [List.map_toArray, List.map_cons, List.map_nil]); first | done | rfl | (simp only [List.length_drop, List.length_take]; rfl)) ?_; (with_reducible refine (laws_eqTable.calls kj60 t278 t279 _ _ t280 t240 t241 _ _ t242 false _ ?side1 ?side2 ?side3 ?side4 A118.out).mono ?_); (case side1 => refine (Kd.R_reads' (e := 40) (base := w.heap.size) (ok := fun k_ => ((((True ∧ some k_ ≠ (.slice Ao23 t242.length co23 : Value).ownBlock) ∧ some k_ ≠ (.slice Ao30 t268.length co30 : Value).ownBlock) ∧ some k_ ≠ (.slice Ao37 t255.length co37 : Value).ownBlock) ∧ some k_ ≠ (.slice Ao109 t275.length co109 : Value).ownBlock)) (n := t280.length) (c := co117) ?_).2.2; exact (by (with_reducible repeat (first | apply Kd.R_alloc | apply Kd.R_drewN | apply Kd.R_drew)); exact (Kd.R_mono (rF (rF (rF (Kd.R_types HO282.out BK284.out (by decide)) _ _) _ _) _ _) (fun _ h_ => h_.1)))); (case side2 => exact (Kd.R_reads' HO282.out).2.1); (case side3 => refine (Kd.R_reads' (e := 40) (base := w.heap.size) (ok := fun k_ => (((some k_ ≠ (.slice Ao30 t268.length co30 : Value).ownBlock ∧ some k_ ≠ (.slice Ao37 t255.length co37 : Value).ownBlock) ∧ some k_ ≠ (.slice Ao109 t275.length co109 : Value).ownBlock) ∧ some k_ ≠ (.slice Ao117 t280.length co117 : Value).ownBlock)) (n := t242.length) (c := co23) ?_).2.2; exact (by (with_reducible repeat (first | apply Kd.R_alloc | apply Kd.R_drewN | apply Kd.R_drew)); exact (Kd.R_mono (rF (rF (rF (Kd.R_types HO_247002.out BK284.out (by decide)) _ _) _ _) _ _) (fun _ h_ => h_.1)))); (case side4 => exact (Kd.R_reads' HO_247002.out).2.1); rintro e w139 ⟨rfl, hb⟩; refine ⟨_, rfl, ?_⟩; have n0_ := Aside0.mk (Kd.R_below (by (with_reducible repeat (first | apply Kd.R_alloc | apply Kd.R_drewN | apply Kd.R_drew)); exact (Kd.R_mono (rF (rF (rF (Kd.R_types HO_247002.out BK284.out (by decide)) _ _) _ _) _ _) (fun _ h_ => h_.1))) hb); have n1_ := Aside0.mk (Kd.R_below (by (with_reducible repeat (first | apply Kd.R_alloc | apply Kd.R_drewN | apply Kd.R_drew)); exact (Kd.R_mono (rF (rF (rF (Kd.R_types HO_253002.out BK284.out (by decide)) _ _) _ _) _ _) (fun _ h_ => h_.1))) hb); have n2_ := Aside0.mk (Kd.R_below (by (with_reducible repeat (first | apply Kd.R_alloc | apply Kd.R_drewN | apply Kd.R_drew)); exact (Kd.R_mono (rF (rF (rF (Kd.R_types HO_260002.out BK284.out (by decide)) _ _) _ _) _ _) (fun _ h_ => h_.1))) hb); have n3_ := Aside0.mk (Kd.R_below (by (with_reducible repeat (first | apply Kd.R_alloc | apply Kd.R_drewN | apply Kd.R_drew)); exact (Kd.R_mono (rF (rF (rF (Kd.R_types HO277.out BK284.out (by decide)) _ _) _ _) _ _) (fun _ h_ => h_.1))) hb); have n4_ := Aside0.mk (Kd.R_below (by (with_reducible repeat (first | apply Kd.R_alloc | apply Kd.R_drewN | apply Kd.R_drew)); exact (Kd.R_mono (rF (rF (rF (Kd.R_types HO282.out BK284.out (by decide)) _ _) _ _) _ _) (fun _ h_ => h_.1))) hb); have n5_ := Aside0.mk (blk_below (g := gb233) (o := .cells #[.int .i64 a0_0, .int .i64 a0_1, .slice A0_2 l0_2.length c0_2] 24 (0, 0)) (by (with_reducible repeat (first | refine blk_drewN ?_ _ | refine blk_drew ?_ | refine blk_alloc ?_ _)); refine blk_far ?_ NB233_284.out _; (with_reducible repeat (first | refine blk_drewN ?_ _ | refine blk_drew ?_ | refine blk_alloc ?_ _)); refine blk_far ?_ NB233_284.out _; (with_reducible repeat (first | refine blk_drewN ?_ _ | refine blk_drew ?_ | refine blk_alloc ?_ _)); refine blk_far ?_ NB233_284.out _; (with_reducible repeat (first | refine blk_drewN ?_ _ | refine blk_drew ?_ | refine blk_alloc ?_ _)); exact BK233.out) hb); have n6_ := Aside0.mk (blk_below (g := gb246) (o := .cells #[.int .i64 t240, .int .i64 t241, .slice Ao23 t242.length co23] 29 (0, 0)) (by (with_reducible repeat (first | refine blk_drewN ?_ _ | refine blk_drew ?_ | refine blk_alloc ?_ _)); refine blk_far ?_ NB246_284.out _; (with_reducible repeat (first | refine blk_drewN ?_ _ | refine blk_drew ?_ | refine blk_alloc ?_ _)); refine blk_far ?_ NB246_284.out _; (with_reducible repeat (first | refine blk_drewN ?_ _ | refine blk_drew ?_ | refine blk_alloc ?_ _)); refine blk_far ?_ NB246_284.out _; (with_reducible repeat (first | refine blk_drewN ?_ _ | refine blk_drew ?_ | refine blk_alloc ?_ _)); exact BK246.out) hb); have n7_ := Aside0.mk (blk_below (g := gb252) (o := .cells #[.int .i64 t247, .int .i64 t248, .slice Ao30 t268.length co30] 29 (0, 0)) (by (with_reducible repeat (first | refine blk_drewN ?_ _ | refine blk_drew ?_ | refine blk_alloc ?_ _)); refine blk_far ?_ NB252_284.out _; (with_reducible repeat (first | refine blk_drewN ?_ _ | refine blk_drew ?_ | refine blk_alloc ?_ _)); refine blk_far ?_ NB252_284.out _; (with_reducible repeat (first | refine blk_drewN ?_ _ | refine blk_drew ?_ | refine blk_alloc ?_ _)); refine blk_far ?_ NB252_284.out _; (with_reducible repeat (first | refine blk_drewN ?_ _ | refine blk_drew ?_ | refine blk_alloc ?_ _)); exact BK252.out) hb); have n8_ := Aside0.mk (blk_below (g := gb259) (o := .cells #[.int .i64 t253, .int .i64 t254, .slice Ao37 t255.length co37] 29 (0, 0)) (by (with_reducible repeat (first | refine blk_drewN ?_ _ | refine blk_drew ?_ | refine blk_alloc ?_ _)); refine blk_far ?_ NB259_284.out _; (with_reducible repeat (first | refine blk_drewN ?_ _ | refine blk_drew ?_ | refine blk_alloc ?_ _)); refine blk_far ?_ NB259_284.out _; (with_reducible repeat (first | refine blk_drewN ?_ _ | refine blk_drew ?_ | refine blk_alloc ?_ _)); refine blk_far ?_ NB259_284.out _; (with_reducible repeat (first | refine blk_drewN ?_ _ | refine blk_drew ?_ | refine blk_alloc ?_ _)); exact BK259.out) hb); have n9_ := Aside0.mk (blk_below (g := gb284) (o := .cells #[.int .i64 t278, .int .i64 t279, .slice Ao117 t280.length co117] 29 (0, 0)) (by (with_reducible repeat (first | refine blk_drewN ?_ _ | refine blk_drew ?_ | refine blk_alloc ?_ _)); refine blk_put (cs := #[.int .i64 t278, .int .i64 t279, .slice none 0 0]) ?_ 2 _ rfl; (with_reducible repeat (first | refine blk_drewN ?_ _ | refine blk_drew ?_ | refine blk_alloc ?_ _)); refine blk_put (cs := #[.int .i64 t278, .int .i64 0, .slice none 0 0]) ?_ 1 _ rfl; (with_reducible repeat (first | refine blk_drewN ?_ _ | refine blk_drew ?_ | refine blk_alloc ?_ _)); refine blk_put (cs := #[.int .i64 0, .int .i64 0, .slice none 0 0]) ?_ 0 _ rfl; (with_reducible repeat (first | refine blk_drewN ?_ _ | refine blk_drew ?_ | refine blk_alloc ?_ _)); exact BK284.out) hb); have n10_ := Aside0.mk (below_step (by repeat (first | (with_reducible first | exact HB.out | apply ba | apply bn | apply bd | refine bt ?_ GE233.out | refine bt ?_ GE246.out | refine bt ?_ GE252.out | refine bt ?_ GE259.out | refine bt ?_ GE284.out) | exact HB.out)) hb); clear HO_247002; clear HO_253002; clear HO_260002; clear HO277; clear HO282; clear BK233; clear BK246; clear BK252; clear BK259; clear BK284; clear HB; have HO_247002 := n0_; have HO_253002 := n1_; have HO_260002 := n2_; have HO277 := n3_; have HO282 := n4_; have BK233 := n5_; have BK246 := n6_; have BK252 := n7_; have BK259 := n8_; have BK284 := n9_; have HB := n10_; clear n0_ n1_ n2_ n3_ n4_ n5_ n6_ n7_ n8_ n9_ n10_; (try clear hb); (try clear hb2); (try clear hk); (try clear hi)))
             go_meet
             case rel => exact ⟨_, (true), (by first | rfl | (simp; done) | (simp [*]; done)), H', ⟨by have := HJ11.out; have := HJ60.out; first | omega | exact Nat.le_refl _⟩, ⟨by (try simp only [hl253002_60]); (with_reducible repeat (first | apply Kd.R_alloc | apply Kd.R_drewN | apply Kd.R_drew)); exact Kd.R_mono HO_247002.out (fun _ hk => ⟨hk.1.1.1, ⟨hk.1.1.2, hk.2⟩⟩)⟩, ⟨by (try simp only [hl253002_60]); (with_reducible repeat (first | apply Kd.R_alloc | apply Kd.R_drewN | apply Kd.R_drew)); exact Kd.R_mono HO_253002.out (fun _ hk => ⟨hk.1.1.1, ⟨hk.1.1.2, hk.2⟩⟩)⟩, ⟨by (try simp only [hl253002_60]); (with_reducible repeat (first | apply Kd.R_alloc | apply Kd.R_drewN | apply Kd.R_drew)); exact Kd.R_mono HO_260002.out (fun _ hk => ⟨hk.1.1.1, ⟨hk.1.1.2, hk.2⟩⟩)⟩, ⟨by (try simp only [hl253002_60]); (with_reducible repeat (first | apply Kd.R_alloc | apply Kd.R_drewN | apply Kd.R_drew)); exact Kd.R_mono HO282.out (fun _ hk => ⟨hk.1.1.1.2, ⟨hk.1.1.2, hk.1.2⟩⟩)⟩, ⟨by (try simp only [hl253002_60]); (with_reducible repeat (first | refine blk_drewN ?_ _ | refine blk_drew ?_ | refine blk_alloc ?_ _)); exact BK233.out⟩, ⟨by (try simp only [hl253002_60]); (with_reducible repeat (first | refine blk_drewN ?_ _ | refine blk_drew ?_ | refine blk_alloc ?_ _)); exact BK246.out⟩, ⟨by (try simp only [hl253002_60]); (with_reducible repeat (first | refine blk_drewN ?_ _ | refine blk_drew ?_ | refine blk_alloc ?_ _)); exact BK252.out⟩, ⟨by (try simp only [hl253002_60]); (with_reducible repeat (first | refine blk_drewN ?_ _ | refine blk_drew ?_ | refine blk_alloc ?_ _)); exact BK259.out⟩, ⟨by (try simp only [hl253002_60]); (with_reducible repeat (first | refine blk_drewN ?_ _ | refine blk_drew ?_ | refine blk_alloc ?_ _)); exact BK284.out⟩, ⟨by repeat (first | (with_reducible first | exact HB.out | apply ba | apply bn | apply bd | refine bt ?_ GE233.out | refine bt ?_ GE246.out | refine bt ?_ GE252.out | refine bt ?_ GE259.out | refine bt ?_ GE284.out) | exact HB.out)⟩⟩
           case rest =>
            clear HC97
            try clear c1
            try clear c2
            try clear p2
            try clear c3
            try clear c4
            try clear c4b0
            try clear c5
            try clear c6
            try clear c7
            try clear c8
            try clear c9
            try clear c10
            try clear c11
            try clear c12
            try clear c13
            try clear c17
            try clear c19
            try clear c21
            try clear c24
            try clear c25
            try clear c26
            try clear c27
            try clear c28
            try clear c33
            try clear c34
            try clear c35
            try clear c39
            try clear c40
            try clear c41
            try clear c42
            try clear c44
            try clear c45
            try clear c48
            try clear c49
            try clear c50
            try clear c52
            try clear c53
            try clear c56
            try clear c59
            try clear c66
            try clear c67
            try clear c68
            try clear c71
            try clear c71b0
            try clear c73
            try clear c74
            try clear c75
            try clear c76
            try clear c78
            try clear c79
            try clear c82
            try clear c83
            try clear c84
            try clear c86
            try clear c87
            try clear c90
            try clear c93
            try clear c93b0
            try clear c94
            try clear c94b0
            try clear c94b1
            try clear c98
            try clear c99
            try clear c100
            try clear c105
            try clear c106
            try clear c112
            try clear c113
            try clear c114
            try clear c115
            try clear c119
            try clear c120
            try clear c121
            try clear c122
            try clear c123
            try clear c125
            try clear c126
            try clear c127
            try clear c130
            try clear c131
            try clear c132
            try clear c133
            try clear c135
            try clear c136
            try clear c137
            try clear hcz101_0
            try clear hcz101_1
            try clear hcz101_2
            try clear hcz103_0
            try clear hcz103_1
            try clear hcz103_2
            try clear hcz107_0
            try clear hcz107_1
            try clear hcz107_2
            try clear hcz116_0
            try clear hcz116_1
            try clear hcz116_2
            try clear hcz124_0
            try clear hcz124_1
            try clear hcz124_2
            try clear hcz128_0
            try clear hcz128_1
            try clear hcz128_2
            try clear hcz134_0
            try clear hcz134_1
            try clear hcz134_2
            try clear hcz138_0
            try clear hcz138_1
            try clear hcz138_2
            try clear hcz14_0
            try clear hcz14_1
            try clear hcz14_2
            try clear hcz16_0
            try clear hcz16_1
            try clear hcz16_2
            try clear hcz22_0
            try clear hcz22_1
            try clear hcz22_2
            try clear hcz24_0
            try clear hcz24_1
            try clear hcz24_2
            try clear hcz29_0
            try clear hcz29_1
            try clear hcz29_2
            try clear hcz36_0
            try clear hcz36_1
            try clear hcz36_2
            try clear hcz43_0
            try clear hcz43_1
            try clear hcz43_2
            try clear hcz46_0
            try clear hcz46_1
            try clear hcz46_2
            try clear hcz51_0
            try clear hcz51_1
            try clear hcz51_2
            try clear hcz54_0
            try clear hcz54_1
            try clear hcz54_2
            try clear hcz69_0
            try clear hcz69_1
            try clear hcz69_2
            try clear hcz6_0
            try clear hcz6_1
            try clear hcz6_2
            try clear hcz77_0
            try clear hcz77_1
            try clear hcz77_2
            try clear hcz80_0
            try clear hcz80_1
            try clear hcz80_2
            try clear hcz85_0
            try clear hcz85_1
            try clear hcz85_2
            try clear hcz88_0
            try clear hcz88_1
            try clear hcz88_2
            try clear hfz101_0
            try clear hfz101_1
            try clear hfz101_2
            try clear hfz103_0
            try clear hfz103_1
            try clear hfz103_2
            try clear hfz107_0
            try clear hfz107_1
            try clear hfz107_2
            try clear hfz116_0
            try clear hfz116_1
            try clear hfz116_2
            try clear hfz124_0
            try clear hfz124_1
            try clear hfz124_2
            try clear hfz128_0
            try clear hfz128_1
            try clear hfz128_2
            try clear hfz134_0
            try clear hfz134_1
            try clear hfz134_2
            try clear hfz138_0
            try clear hfz138_1
            try clear hfz138_2
            try clear hfz14_0
            try clear hfz14_1
            try clear hfz14_2
            try clear hfz16_0
            try clear hfz16_1
            try clear hfz16_2
            try clear hfz22_0
            try clear hfz22_1
            try clear hfz22_2
            try clear hfz24_0
            try clear hfz24_1
            try clear hfz24_2
            try clear hfz29_0
            try clear hfz29_1
            try clear hfz29_2
            try clear hfz36_0
            try clear hfz36_1
            try clear hfz36_2
            try clear hfz43_0
            try clear hfz43_1
            try clear hfz43_2
            try clear hfz46_0
            try clear hfz46_1
            try clear hfz46_2
            try clear hfz51_0
            try clear hfz51_1
            try clear hfz51_2
            try clear hfz54_0
            try clear hfz54_1
            try clear hfz54_2
            try clear hfz69_0
            try clear hfz69_1
            try clear hfz69_2
            try clear hfz6_0
            try clear hfz6_1
            try clear hfz6_2
            try clear hfz77_0
            try clear hfz77_1
            try clear hfz77_2
            try clear hfz80_0
            try clear hfz80_1
            try clear hfz80_2
            try clear hfz85_0
            try clear hfz85_1
            try clear hfz85_2
            try clear hfz88_0
            try clear hfz88_1
            try clear hfz88_2
            try clear p2
            obtain ⟨kq, x92_96, rfl, HA, HJ96, HO_247002, HO_253002, HO_260002, HO_285002, BK233, BK246, BK252, BK259, BK284, HB⟩ := hcut
            have hl260002_96 := (Kd.R_reads' HO_260002.out).1
            rw [hl260002_96] at HO_260002
            (try simp only [hl260002_96])
            (try simp only [hl260002_96] at BK233)
            (try simp only [hl260002_96] at BK246)
            (try simp only [hl260002_96] at BK252)
            (try simp only [hl260002_96] at BK259)
            (try simp only [hl260002_96] at BK284)
            (try simp only [hl260002_96] at HO_247002)
            (try simp only [hl260002_96] at HO_253002)
            (try simp only [hl260002_96] at HO_285002)
            cases kq with
            | zero => exact absurd HA.out (by simp [laws_FnExactTableJoin.j2])
            | succ kj96 =>
             have H := HA.out
             clear HA
             simp only [laws_FnExactTableJoin.j2] at H
             by_cases c140 : x92_96 = true
             ·subst c140
              have H1 : (some false) = some r := by rw [if_pos rfl] at H; exact H
              clear H
              have H := H1
              clear H1
              exact absurd (Option.some.inj H) (by rw [HTR.out]; decide)
             ·replace c140 := Bool.eq_false_iff.mpr c140
              subst c140
              have H1 : ((laws_heldTable.f kj96 t253 t254 t271 1).bind fun t286 => (if t286 < 0 then (some false) else (if t286 = t270 then (some true) else (some false)))) = some r := by rw [if_neg (show ¬ (false = true) by decide)] at H; exact H
              clear H
              have H := H1
              clear H1
              replace H := Option.bind_eq_some_iff.mp H
              obtain ⟨t286, A1410, H⟩ := H
              replace H : (if t286 < 0 then (some false) else (if t286 = t270 then (some true) else (some false))) = some r := H
              have A141 := Aside0.mk A1410
              clear A1410
              by_cases c142 : t286 < 0
              ·rw [if_pos c142] at H
               have c142b0 : decide (t286 < 0) = true := decide_eq_true c142
               clear c142
               exact absurd (Option.some.inj H) (by rw [HTR.out]; decide)
              ·rw [if_neg c142] at H
               have c142b0 : decide (t286 < 0) = false := decide_eq_false c142
               clear c142
               by_cases c143 : t286 = t270
               ·rw [if_pos c143] at H
                have c143b0 : (t286 == t270) = true := beq_iff_eq.mpr c143
                have c143b1 : (t286 != t270) = false := bne_eq_false_iff_eq.mpr c143
                clear c143
                obtain rfl := Option.some.inj H
                have hnb144 := NB259_233.out
                have hnc144 := NB233_259.out
                have hnb145 := NB259_246.out
                have hnc145 := NB246_259.out
                have hnb146 := NB259_252.out
                have hnc146 := NB252_259.out
                have hnb147 := NB259_284.out
                have hnc147 := NB284_259.out
                have hcz148_0 : wc.cell? ⟨gb259, 0, none⟩ = some (.int .i64 t253) := cl BK259.out 0 rfl
                have hcz148_1 : wc.cell? ⟨gb259, 1, none⟩ = some (.int .i64 t254) := cl BK259.out 1 rfl
                have hcz148_2 : wc.cell? ⟨gb259, 2, none⟩ = some (.slice Ao37 t271.length co37) := cl BK259.out 2 rfl
                have hfz148_0 := fz BK259.out 0
                have hfz148_1 := fz BK259.out 1
                have hfz148_2 := fz BK259.out 2
                go_wp2_with (first | ((with_reducible refine gate_callee (f := 27) rfl ?_); refine goesL_ (some 95) rfl rfl Try.func27 (by kernel_rfl) rfl #[.agg #[.int .i64 t253, .int .i64 t254, .slice Ao37 t271.length co37], .int .i64 1] rfl (by (try simp only [List.map_toArray, List.map_cons, List.map_nil]); first | done | rfl | (simp only [List.length_drop, List.length_take]; rfl)) ?_; (with_reducible refine (laws_heldTable.calls kj96 t253 t254 _ _ t271 1 t286 _ ?side1 ?side2 A141.out).mono ?_); (case side1 => repeat (first | exact (Kd.R_reads' HO_260002.out).2.2 | (with_reducible refine Kd.C_alloc ?_ _) | (with_reducible refine Kd.C_drewN ?_ _) | (with_reducible refine Kd.C_drew ?_))); (case side2 => exact (Kd.R_reads' HO_260002.out).2.1); rintro e w149 ⟨rfl, hb⟩; refine ⟨_, rfl, ?_⟩; have n0_ := Aside0.mk (Kd.R_below (by (with_reducible repeat (first | apply Kd.R_alloc | apply Kd.R_drewN | apply Kd.R_drew)); exact HO_247002.out) hb); have n1_ := Aside0.mk (Kd.R_below (by (with_reducible repeat (first | apply Kd.R_alloc | apply Kd.R_drewN | apply Kd.R_drew)); exact HO_253002.out) hb); have n2_ := Aside0.mk (Kd.R_below (by (with_reducible repeat (first | apply Kd.R_alloc | apply Kd.R_drewN | apply Kd.R_drew)); exact HO_260002.out) hb); have n3_ := Aside0.mk (Kd.R_below (by (with_reducible repeat (first | apply Kd.R_alloc | apply Kd.R_drewN | apply Kd.R_drew)); exact HO_285002.out) hb); have n4_ := Aside0.mk (blk_below (g := gb233) (o := .cells #[.int .i64 a0_0, .int .i64 a0_1, .slice A0_2 l0_2.length c0_2] 24 (0, 0)) (by (with_reducible repeat (first | refine blk_drewN ?_ _ | refine blk_drew ?_ | refine blk_alloc ?_ _)); exact BK233.out) hb); have n5_ := Aside0.mk (blk_below (g := gb246) (o := .cells #[.int .i64 t240, .int .i64 t241, .slice Ao23 t242.length co23] 29 (0, 0)) (by (with_reducible repeat (first | refine blk_drewN ?_ _ | refine blk_drew ?_ | refine blk_alloc ?_ _)); exact BK246.out) hb); have n6_ := Aside0.mk (blk_below (g := gb252) (o := .cells #[.int .i64 t247, .int .i64 t248, .slice Ao30 t268.length co30] 29 (0, 0)) (by (with_reducible repeat (first | refine blk_drewN ?_ _ | refine blk_drew ?_ | refine blk_alloc ?_ _)); exact BK252.out) hb); have n7_ := Aside0.mk (blk_below (g := gb259) (o := .cells #[.int .i64 t253, .int .i64 t254, .slice Ao37 t271.length co37] 29 (0, 0)) (by (with_reducible repeat (first | refine blk_drewN ?_ _ | refine blk_drew ?_ | refine blk_alloc ?_ _)); exact BK259.out) hb); have n8_ := Aside0.mk (blk_below (g := gb284) (o := .cells #[.int .i64 t278, .int .i64 t279, .slice Ao117 t280.length co117] 29 (0, 0)) (by (with_reducible repeat (first | refine blk_drewN ?_ _ | refine blk_drew ?_ | refine blk_alloc ?_ _)); exact BK284.out) hb); have n9_ := Aside0.mk (below_step (by repeat (first | (with_reducible first | exact HB.out | apply ba | apply bn | apply bd | refine bt ?_ GE233.out | refine bt ?_ GE246.out | refine bt ?_ GE252.out | refine bt ?_ GE259.out | refine bt ?_ GE284.out) | exact HB.out)) hb); clear HO_247002; clear HO_253002; clear HO_260002; clear HO_285002; clear BK233; clear BK246; clear BK252; clear BK259; clear BK284; clear HB; have HO_247002 := n0_; have HO_253002 := n1_; have HO_260002 := n2_; have HO_285002 := n3_; have BK233 := n4_; have BK246 := n5_; have BK252 := n6_; have BK259 := n7_; have BK284 := n8_; have HB := n9_; clear n0_ n1_ n2_ n3_ n4_ n5_ n6_ n7_ n8_ n9_; (try clear hb); (try clear hb2); (try clear hk); (try clear hi)))
                go_ret
                exact ⟨by first | rfl | (simp [errW_none, errW_some] <;> rfl) | (simp [*, errW_none, errW_some] <;> rfl), by repeat (first | (with_reducible first | exact HB.out | apply ba | apply bn | apply bd | refine bt ?_ GE233.out | refine bt ?_ GE246.out | refine bt ?_ GE252.out | refine bt ?_ GE259.out | refine bt ?_ GE284.out) | exact HB.out)⟩
               ·rw [if_neg c143] at H
                have c143b0 : (t286 == t270) = false := beq_eq_false_iff_ne.mpr c143
                have c143b1 : (t286 != t270) = true := bne_iff_ne.mpr c143
                exact absurd (Option.some.inj H) (by rw [HTR.out]; decide)
          ·rw [if_neg c94] at H
           have c94b0 : (t272 == t270) = false := beq_eq_false_iff_ne.mpr c94
           have c94b1 : (t272 != t270) = true := bne_iff_ne.mpr c94
           exact absurd (Option.some.inj H) (by rw [HTR.out]; decide)
     ·replace c59 := Bool.eq_false_iff.mpr c59
      subst c59
      have H1 : (some false) = some r := by rw [if_neg (show ¬ (false = true) by decide)] at H; exact H
      clear H
      have H := H1
      clear H1
      exact absurd (Option.some.inj H) (by rw [HTR.out]; decide)

end Go.Proofs.Ytekhlpkodgjdeaa.PFnExactTableJoin
