/- Printed by a program of this session over the kit's print, for function values too. Lean checks it. -/
import Derived.Test.YtidhlpaoncneiaaPFnExactPlanPastx0
import Derived.Test.YtidhlpaoncneiaaPFnExactPlanPastx2
import Derived.Test.YtidhlpaoncneiaaPFnExactPlanPastx3
namespace Go.Proofs.Ytidhlpaoncneiaa.PFnExactPlanPast
open Go.RowKit Go.Proofs.YtidhlpaoncneiaaH Go.Proofs.YtidhlpaoncneiaaW.PrintWords Go.Proofs.YtidhlpaoncneiaaW.PrintLast Go.Proofs.YtidhlpaoncneiaaW.PrintMore
attribute [local go_sem] max2_int min2_int max_two min_two max_three min_three max_four min_four   -- for this text's walks alone
set_option linter.unusedVariables false
set_option linter.unusedSimpArgs false

/-! ### spec_PlanOk: function 28 -/
mutual
def spec_PlanOk.j0 : Nat → Bool → Int → Int → Int → List (S123) → List (S97) → Int → Int → Option (Bool)
 | 0, _, _, _, _, _, _, _, _ => none
 | k + 1, x34, x174000, x174001, x174002, x174003, x174004, x174005, x174006 => if x34 = true then (some false) else (spec_PlanOk.l0 k 0 x174000 x174001 x174002 x174003 x174004 x174005 x174006)
def spec_PlanOk.l0 : Nat → Int → Int → Int → Int → List (S123) → List (S97) → Int → Int → Option (Bool)
 | 0, _, _, _, _, _, _, _, _ => none
 | k + 1, x3, x174000, x174001, x174002, x174003, x174004, x174005, x174006 => if x3 < (x174004.length : Int) then (if 0 ≤ x3 then ((spec_l6In.f ((rd_T97 x174004 x3).f0) 0 3).bind fun t182 => (if t182 = true then ((spec_l6In.f ((rd_T97 x174004 x3).f1) 1 9999).bind fun t183 => (if t183 = true then ((spec_l6In.f ((rd_T97 x174004 x3).f2) (-1) 10).bind fun t184 => (if t184 = true then (if x3 > 0 then (if 0 ≤ (wrap64 (x3 - 1)) then (if (wrap64 (x3 - 1)) < (x174004.length : Int) then (if ((rd_T97 x174004 (wrap64 (x3 - 1))).f0) ≥ ((rd_T97 x174004 x3).f0) then (some false) else (spec_PlanOk.l0 k (wrap64 (x3 + 1)) x174000 x174001 x174002 x174003 x174004 x174005 x174006)) else (none)) else (none)) else (spec_PlanOk.l0 k (wrap64 (x3 + 1)) x174000 x174001 x174002 x174003 x174004 x174005 x174006)) else (some false))) else (some false))) else (some false))) else (none)) else (some true)
end
def spec_PlanOk.f (k : Nat) (a0_0 : Int) (a0_1 : Int) (a0_2 : Int) (l0_3 : List (S123)) (l0_4 : List (S97)) (a0_5 : Int) (a0_6 : Int) : Option (Bool) := (spec_l6In.f a0_0 0 60).bind fun t174 => (if t174 = true then ((spec_TableOk.f k a0_1 a0_2 l0_3).bind fun t175 => (if t175 = true then (if (l0_4.length : Int) > 4 then (spec_PlanOk.j0 k true a0_0 a0_1 a0_2 l0_3 l0_4 a0_5 a0_6) else ((spec_l2Full.f k).bind fun t176 => ((spec_l6In.f a0_5 1 t176).bind fun t177 => (if t177 = true then ((spec_l2Full.f k).bind fun t178 => ((spec_l6In.f a0_6 0 t178).bind fun t179 => (spec_PlanOk.j0 k (!t179) a0_0 a0_1 a0_2 l0_3 l0_4 a0_5 a0_6))) else (spec_PlanOk.j0 k true a0_0 a0_1 a0_2 l0_3 l0_4 a0_5 a0_6))))) else (spec_PlanOk.j0 k true a0_0 a0_1 a0_2 l0_3 l0_4 a0_5 a0_6))) else (spec_PlanOk.j0 k true a0_0 a0_1 a0_2 l0_3 l0_4 a0_5 a0_6))
theorem spec_PlanOk.mono_l : ∀ k, (∀ y0 y1 y2 y3 y4 y5 y6 y7, LeO (spec_PlanOk.j0 k y0 y1 y2 y3 y4 y5 y6 y7) (spec_PlanOk.j0 (k + 1) y0 y1 y2 y3 y4 y5 y6 y7)) ∧ (∀ y0 y1 y2 y3 y4 y5 y6 y7, LeO (spec_PlanOk.l0 k y0 y1 y2 y3 y4 y5 y6 y7) (spec_PlanOk.l0 (k + 1) y0 y1 y2 y3 y4 y5 y6 y7))
 | 0 => ⟨fun _ _ _ _ _ _ _ _ r h => by simp [spec_PlanOk.j0] at h, fun _ _ _ _ _ _ _ _ r h => by simp [spec_PlanOk.l0] at h⟩
 | k + 1 => by
  obtain ⟨ih0, ih1⟩ := spec_PlanOk.mono_l k
  refine ⟨?_, ?_⟩
  ·intro y0 y1 y2 y3 y4 y5 y6 y7
   unfold spec_PlanOk.j0
   repeat' first
   | (with_reducible exact ih0 _ _ _ _ _ _ _ _)
   | (with_reducible exact ih1 _ _ _ _ _ _ _ _)
   | (with_reducible exact spec_TableOk.mono _ _ _ _)
   | (with_reducible exact spec_l2Full.mono _)
   | (with_reducible exact LeO.refl _)
   | (with_reducible exact LeO.none _)
   | (with_reducible refine LeO.ite ?_ ?_)
   | (with_reducible refine LeO.bind ?_ (fun _ => ?_))
   | exact ih0 _ _ _ _ _ _ _ _
   | exact ih1 _ _ _ _ _ _ _ _
   | exact spec_TableOk.mono _ _ _ _
   | exact spec_l2Full.mono _
   | exact LeO.none _
   | refine LeO.ite ?_ ?_
   | refine LeO.bind ?_ (fun _ => ?_)
  ·intro y0 y1 y2 y3 y4 y5 y6 y7
   unfold spec_PlanOk.l0
   repeat' first
   | (with_reducible exact ih0 _ _ _ _ _ _ _ _)
   | (with_reducible exact ih1 _ _ _ _ _ _ _ _)
   | (with_reducible exact spec_TableOk.mono _ _ _ _)
   | (with_reducible exact spec_l2Full.mono _)
   | (with_reducible exact LeO.refl _)
   | (with_reducible exact LeO.none _)
   | (with_reducible refine LeO.ite ?_ ?_)
   | (with_reducible refine LeO.bind ?_ (fun _ => ?_))
   | exact ih0 _ _ _ _ _ _ _ _
   | exact ih1 _ _ _ _ _ _ _ _
   | exact spec_TableOk.mono _ _ _ _
   | exact spec_l2Full.mono _
   | exact LeO.none _
   | refine LeO.ite ?_ ?_
   | refine LeO.bind ?_ (fun _ => ?_)
theorem spec_PlanOk.mono : ∀ a0 a1 a2 a3 a4 a5 a6 k, LeO (spec_PlanOk.f k a0 a1 a2 a3 a4 a5 a6) (spec_PlanOk.f (k + 1) a0 a1 a2 a3 a4 a5 a6) := by
 intro a0 a1 a2 a3 a4 a5 a6 k
 obtain ⟨ih0, ih1⟩ := spec_PlanOk.mono_l k
 unfold spec_PlanOk.f
 repeat' first
   | (with_reducible exact ih0 _ _ _ _ _ _ _ _)
   | (with_reducible exact ih1 _ _ _ _ _ _ _ _)
   | (with_reducible exact spec_TableOk.mono _ _ _ _)
   | (with_reducible exact spec_l2Full.mono _)
   | (with_reducible exact LeO.refl _)
   | (with_reducible exact LeO.none _)
   | (with_reducible refine LeO.ite ?_ ?_)
   | (with_reducible refine LeO.bind ?_ (fun _ => ?_))
   | exact ih0 _ _ _ _ _ _ _ _
   | exact ih1 _ _ _ _ _ _ _ _
   | exact spec_TableOk.mono _ _ _ _
   | exact spec_l2Full.mono _
   | exact LeO.none _
   | refine LeO.ite ?_ ?_
   | refine LeO.bind ?_ (fun _ => ?_)
def spec_PlanOk.T1 : Bool × List (List Nat × List Nat) := (true, [([], []), ([0], [0]), ([1], [1]), ([2], [2]), ([3, 2], [3]), ([4], [4]), ([5, 4], [4, 5]), ([6, 4, 4], [4, 6]), ([7, 4], [4, 7]), ([4, 8], [4, 8]), ([9, 7], [9]), ([10], [10]), ([11, 10], [10, 11]), ([12, 10], [10, 12]), ([13, 10], [10, 13]), ([10, 14], [10, 14]), ([15, 10], [15]), ([16], [16]), ([17, 16], [16, 17]), ([16, 16], [16]), ([18, 19, 19, 16], [16, 18, 19]), ([20, 16], [16, 20]), ([16, 21], [16, 21]), ([22, 20], [22]), ([23], [23]), ([24, 23], [23, 24]), ([23, 23], [23]), ([25, 26, 26, 23], [23, 25, 26]), ([27, 23], [23, 27]), ([23, 28], [23, 28])])
def spec_PlanOk.B1 : List Nat := [0, 1, 3, 7, 15, 31, 63, 127, 255, 511, 1023, 2047, 4095, 8191, 16383, 32767, 65535, 131071, 262143, 131071, 1048575, 2097151, 4194303, 8388607, 16777215, 33554431, 16777215, 134217727, 268435455, 536870911]
theorem spec_PlanOk.tab1 : rtab .any (opsOf Try.f28 1) = spec_PlanOk.T1 := by kernel_rfl
theorem spec_PlanOk.bits1 : waitsOk spec_PlanOk.T1.2 spec_PlanOk.B1 = true := by kernel_rfl
def spec_PlanOk.T7 : Bool × List (List Nat × List Nat) := (true, [([], []), ([0], [0]), ([1], [1]), ([2], [2]), ([3, 2], [3]), ([4], [4]), ([5, 4], [4, 5]), ([6, 4, 4], [4, 6]), ([7, 4], [4, 7]), ([4, 8], [4, 8]), ([9, 7], [9]), ([10], [10]), ([11, 10], [10, 11]), ([12, 10, 10], [10, 12]), ([13, 10], [10, 13]), ([10, 14], [10, 14]), ([15, 13], [15]), ([16], [16]), ([17, 16], [16, 17]), ([18, 16, 16], [16, 18]), ([19], [19]), ([20, 19], [19, 20]), ([19], [19]), ([22, 19], [19, 22]), ([21, 23, 19], [19, 21, 23]), ([24, 19], [19, 24]), ([25, 19], [19, 25]), ([19], [19]), ([27, 19], [19, 27]), ([26, 28, 19], [19, 26, 28]), ([19, 29, 16], [16, 19, 29]), ([16, 30], [16, 30])])
def spec_PlanOk.B7 : List Nat := [0, 1, 3, 7, 15, 31, 63, 127, 255, 511, 1023, 2047, 4095, 8191, 16383, 32767, 65535, 131071, 262143, 524287, 1048575, 2097151, 1048575, 5242879, 16777215, 33554431, 67108863, 1048575, 135266303, 536870911, 1073741823, 2147483647]
theorem spec_PlanOk.tab7 : rtab .any (opsOf Try.f28 7) = spec_PlanOk.T7 := by kernel_rfl
theorem spec_PlanOk.bits7 : waitsOk spec_PlanOk.T7.2 spec_PlanOk.B7 = true := by kernel_rfl
set_option maxHeartbeats 8000000 in
set_option maxRecDepth 100000 in
theorem spec_PlanOk.calls (k : Nat) (a0_0 : Int) (a0_1 : Int) (a0_2 : Int) (A0_3 : Option Addr) (c0_3 : Nat) (l0_3 : List (S123)) (A0_4 : Option Addr) (c0_4 : Nat) (l0_4 : List (S97)) (a0_5 : Int) (a0_6 : Int) (r : Bool) (w : World) (hr0_3 : Kd.C k123 w A0_3 l0_3.length l0_3) (hc0_3 : l0_3.length ≤ c0_3) (hr0_4 : Kd.C k97 w A0_4 l0_4.length l0_4) (hc0_4 : l0_4.length ≤ c0_4) (h : spec_PlanOk.f k a0_0 a0_1 a0_2 l0_3 l0_4 a0_5 a0_6 = some r) :
  Calls Try.prog 28 #[.agg #[.int .i64 a0_0, .int .i64 a0_1, .int .i64 a0_2, .slice A0_3 l0_3.length c0_3, .slice A0_4 l0_4.length c0_4, .int .i64 a0_5, .int .i64 a0_6]] w fun e w' => e = .returned (.bool r) ∧ Below w.heap.size w w' := by
 have hu44 := Try.underlying44
 have hu41 := Try.underlying41
 have hu97 := Try.underlying97
 have HR0_3 := Aside0.mk hr0_3
 have HC0_3 := Aside0.mk hc0_3
 clear hr0_3 hc0_3
 have HR0_4 := Aside0.mk hr0_4
 have HC0_4 := Aside0.mk hc0_4
 clear hr0_4 hc0_4
 have HB := Aside0.mk (Below.refl w.heap.size w)
 have H : ((spec_l6In.f a0_0 0 60).bind fun t174 => (if t174 = true then ((spec_TableOk.f k a0_1 a0_2 l0_3).bind fun t175 => (if t175 = true then (if (l0_4.length : Int) > 4 then (spec_PlanOk.j0 k true a0_0 a0_1 a0_2 l0_3 l0_4 a0_5 a0_6) else ((spec_l2Full.f k).bind fun t176 => ((spec_l6In.f a0_5 1 t176).bind fun t177 => (if t177 = true then ((spec_l2Full.f k).bind fun t178 => ((spec_l6In.f a0_6 0 t178).bind fun t179 => (spec_PlanOk.j0 k (!t179) a0_0 a0_1 a0_2 l0_3 l0_4 a0_5 a0_6))) else (spec_PlanOk.j0 k true a0_0 a0_1 a0_2 l0_3 l0_4 a0_5 a0_6))))) else (spec_PlanOk.j0 k true a0_0 a0_1 a0_2 l0_3 l0_4 a0_5 a0_6))) else (spec_PlanOk.j0 k true a0_0 a0_1 a0_2 l0_3 l0_4 a0_5 a0_6))) = some r := h
 clear h
 have HC2 := Aside0.mk H
 clear H
 go_enter Try.func28, Try.ntmps28
 go_upto_region 1 with (first | ((with_reducible refine gate_dst (N := 1) rfl ?_); (try (refine gate_guard (by rfl) ?_; dsimp only)); refine box_event ?hg (N := 1) ?hd (cs := #[.int .i64 a0_0, .int .i64 a0_1, .int .i64 a0_2, .slice A0_3 l0_3.length c0_3, .slice A0_4 l0_4.length c0_4, .int .i64 a0_5, .int .i64 a0_6]) (t := 44) ?hr ?_; (case hd => rfl); (case hg => rfl); (case hr => first | (go_simp; done) | (go_simp; rfl)); intro gb173 hg w3 hbox hb; have n0_ := Aside0.mk (below_step (by repeat (first | (with_reducible first | exact HB.out | apply ba | apply bn | apply bd) | exact HB.out)) hb); have n1_ := Aside0.mk (hbox); have n2_ := Aside0.mk ((by rw [hg]; exact (below_size (by repeat (first | (with_reducible first | exact HB.out | apply ba | apply bn | apply bd) | exact HB.out))) : w.heap.size ≤ gb173)); have n3_ := Aside0.mk ((by rw [hg]; exact (below_size (by repeat (first | (with_reducible first | exact HB.out | apply ba | apply bn | apply bd) | exact HB.out))) : w.heap.size ≤ gb173)); clear HB; have HB := n0_; have BK173 := n1_; have GW173 := n2_; have GE173 := n3_; clear n0_ n1_ n2_ n3_; clear hb hbox hg))
 (try simp only [Act.put, List.setIfInBounds_toArray, List.set_cons_zero, List.set_cons_succ])
 go_cut [34] (fun v34 wc => ∃ (kq : Nat) (x34_1 : Bool), v34 = .bool x34_1 ∧ Aside0 (spec_PlanOk.j0 kq x34_1 a0_0 a0_1 a0_2 l0_3 l0_4 a0_5 a0_6 = some r) ∧ Aside0 (kq ≤ k) ∧ Aside0 (wc.heap[gb173]? = some (.cells #[.int .i64 a0_0, .int .i64 a0_1, .int .i64 a0_2, (.slice A0_3 l0_3.length c0_3), (.slice A0_4 l0_4.length c0_4), .int .i64 a0_5, .int .i64 a0_6] 44 (0, 0))) ∧ Aside0 (Below w.heap.size w wc))
 case first =>
  have H := HC2.out
  clear HC2
  replace H := Option.bind_eq_some_iff.mp H
  obtain ⟨t174, A40, H⟩ := H
  replace H : (if t174 = true then ((spec_TableOk.f k a0_1 a0_2 l0_3).bind fun t175 => (if t175 = true then (if (l0_4.length : Int) > 4 then (spec_PlanOk.j0 k true a0_0 a0_1 a0_2 l0_3 l0_4 a0_5 a0_6) else ((spec_l2Full.f k).bind fun t176 => ((spec_l6In.f a0_5 1 t176).bind fun t177 => (if t177 = true then ((spec_l2Full.f k).bind fun t178 => ((spec_l6In.f a0_6 0 t178).bind fun t179 => (spec_PlanOk.j0 k (!t179) a0_0 a0_1 a0_2 l0_3 l0_4 a0_5 a0_6))) else (spec_PlanOk.j0 k true a0_0 a0_1 a0_2 l0_3 l0_4 a0_5 a0_6))))) else (spec_PlanOk.j0 k true a0_0 a0_1 a0_2 l0_3 l0_4 a0_5 a0_6))) else (spec_PlanOk.j0 k true a0_0 a0_1 a0_2 l0_3 l0_4 a0_5 a0_6)) = some r := H
  have A4 := Aside0.mk A40
  clear A40
  by_cases c5 : t174 = true
  ·subst c5
   have H1 : ((spec_TableOk.f k a0_1 a0_2 l0_3).bind fun t175 => (if t175 = true then (if (l0_4.length : Int) > 4 then (spec_PlanOk.j0 k true a0_0 a0_1 a0_2 l0_3 l0_4 a0_5 a0_6) else ((spec_l2Full.f k).bind fun t176 => ((spec_l6In.f a0_5 1 t176).bind fun t177 => (if t177 = true then ((spec_l2Full.f k).bind fun t178 => ((spec_l6In.f a0_6 0 t178).bind fun t179 => (spec_PlanOk.j0 k (!t179) a0_0 a0_1 a0_2 l0_3 l0_4 a0_5 a0_6))) else (spec_PlanOk.j0 k true a0_0 a0_1 a0_2 l0_3 l0_4 a0_5 a0_6))))) else (spec_PlanOk.j0 k true a0_0 a0_1 a0_2 l0_3 l0_4 a0_5 a0_6))) = some r := by rw [if_pos rfl] at H; exact H
   clear H
   have H := H1
   clear H1
   replace H := Option.bind_eq_some_iff.mp H
   obtain ⟨t175, A60, H⟩ := H
   replace H : (if t175 = true then (if (l0_4.length : Int) > 4 then (spec_PlanOk.j0 k true a0_0 a0_1 a0_2 l0_3 l0_4 a0_5 a0_6) else ((spec_l2Full.f k).bind fun t176 => ((spec_l6In.f a0_5 1 t176).bind fun t177 => (if t177 = true then ((spec_l2Full.f k).bind fun t178 => ((spec_l6In.f a0_6 0 t178).bind fun t179 => (spec_PlanOk.j0 k (!t179) a0_0 a0_1 a0_2 l0_3 l0_4 a0_5 a0_6))) else (spec_PlanOk.j0 k true a0_0 a0_1 a0_2 l0_3 l0_4 a0_5 a0_6))))) else (spec_PlanOk.j0 k true a0_0 a0_1 a0_2 l0_3 l0_4 a0_5 a0_6)) = some r := H
   have A6 := Aside0.mk A60
   clear A60
   by_cases c7 : t175 = true
   ·subst c7
    have H1 : (if (l0_4.length : Int) > 4 then (spec_PlanOk.j0 k true a0_0 a0_1 a0_2 l0_3 l0_4 a0_5 a0_6) else ((spec_l2Full.f k).bind fun t176 => ((spec_l6In.f a0_5 1 t176).bind fun t177 => (if t177 = true then ((spec_l2Full.f k).bind fun t178 => ((spec_l6In.f a0_6 0 t178).bind fun t179 => (spec_PlanOk.j0 k (!t179) a0_0 a0_1 a0_2 l0_3 l0_4 a0_5 a0_6))) else (spec_PlanOk.j0 k true a0_0 a0_1 a0_2 l0_3 l0_4 a0_5 a0_6))))) = some r := by rw [if_pos rfl] at H; exact H
    clear H
    have H := H1
    clear H1
    by_cases c8 : (l0_4.length : Int) > 4
    ·rw [if_pos c8] at H
     have c8b0 : decide (4 < (l0_4.length : Int)) = true := decide_eq_true c8
     have c8b1 : decide (4 < l0_4.length) = true := decide_eq_true (by omega)
     clear c8
     (first | rw [c8b0] | (simp only [i64_w, i32_w]; rw [c8b0]) | skip)
     have H' := Aside0.mk H
     clear H
     try go_wp2
     have n0_ := Aside0.mk (blk_drew BK173.out)
     have n1_ := Aside0.mk (below_drew1 HB.out)
     clear BK173
     clear HB
     have BK173 := n0_
     have HB := n1_
     clear n0_ n1_
     refine start_ (n := 30) (S := fun w' => w'.cell? ⟨gb173, 0, none⟩ = some (.int .i64 a0_0) ∧ w'.cell? ⟨gb173, 1, none⟩ = some (.int .i64 a0_1) ∧ w'.cell? ⟨gb173, 2, none⟩ = some (.int .i64 a0_2) ∧ w'.cell? ⟨gb173, 3, none⟩ = some (.slice A0_3 l0_3.length c0_3) ∧ w'.cell? ⟨gb173, 4, none⟩ = some (.slice A0_4 l0_4.length c0_4) ∧ w'.cell? ⟨gb173, 5, none⟩ = some (.int .i64 a0_5) ∧ w'.cell? ⟨gb173, 6, none⟩ = some (.int .i64 a0_6)) (ds := []) #[false, false, false, false, false, false, false, false, false, false, false, false, false, false, false, false, false, false, false, false, false, false, false, false, false, false, false, false, false, false] (by kernel_rfl) rfl rfl ⟨cl BK173.out 0 rfl, cl BK173.out 1 rfl, cl BK173.out 2 rfl, cl BK173.out 3 rfl, cl BK173.out 4 rfl, cl BK173.out 5 rfl, cl BK173.out 6 rfl⟩ (fun hHeld => ?_); refine with_tabW spec_PlanOk.tab1 spec_PlanOk.bits1 (fun HT_ HW_ => ?_)
     generalize w3.drew = w9 at BK173 HB hHeld ⊢
     refine pa_ 0 (some 5) (any_of HT_.out (by kernel_rfl)) ?_
     refine take_ (i := 1) (N := some 6) (v := ?_) (a' := ?_) #[true, true, false, false, false, false, false, false, false, false, false, false, false, false, false, false, false, false, false, false, false, false, false, false, false, false, false, false, false, false] rfl rfl (take_ofW HT_.out HW_.out (by kernel_rfl)) (fun _ _ _ h => h) (Or.inl ⟨by rfl, ?_⟩) hHeld ?_ ?_
     rotate_left
     ·rintro w' ⟨s0, s1, s2, s3, s4, s5, s6⟩
      go_simp
      with_reducible rfl
     rotate_left
     ·simp only [Act.put, List.setIfInBounds_toArray, List.set_cons_zero, List.set_cons_succ, i64_w, i32_w]
      rfl
     refine one_ (i := 2) (N := some 7) #[true, true, true, false, false, false, false, false, false, false, false, false, false, false, false, false, false, false, false, false, false, false, false, false, false, false, false, false, false, false] rfl rfl (one_of HT_.out (by kernel_rfl)) (by decide) (fun K hK => ?_)
     refine goes_ Try.func49 (by kernel_rfl) rfl #[.int .i64 a0_0, .int .i64 0, .int .i64 60] (by rfl) rfl rfl (by (try simp only [List.map_toArray, List.map_cons, List.map_nil]); first | done | rfl | (simp only [List.length_drop, List.length_take]; rfl)) ?_
     with_reducible refine (spec_l6In.calls a0_0 0 60 true _ A4.out).mono ?_
     rintro e w' ⟨rfl, ⟨nd, rfl⟩⟩
     refine ⟨_, rfl, ?_⟩
     refine hK.out _ _ ⟨cl BK173.out 0 rfl, cl BK173.out 1 rfl, cl BK173.out 2 rfl, cl BK173.out 3 rfl, cl BK173.out 4 rfl, cl BK173.out 5 rfl, cl BK173.out 6 rfl⟩ (fun hHeld => ?_)
     clear hK K
     refine norm_ (a' := ?_) ?_ ?_
     rotate_left
     ·show Act.put _ (some 7) _ = _
      simp only [Act.put, List.setIfInBounds_toArray, List.set_cons_zero, List.set_cons_succ, i64_w, i32_w]
      rfl
     refine pa_ 3 (some 8) (any_of HT_.out (by kernel_rfl)) ?_
     refine pa_ 4 (some 9) (any_of HT_.out (by kernel_rfl)) ?_
     refine pa_ 5 (some 10) (any_of HT_.out (by kernel_rfl)) ?_
     refine take_ (i := 6) (N := some 11) (v := ?_) (a' := ?_) #[true, true, true, true, true, true, true, false, false, false, false, false, false, false, false, false, false, false, false, false, false, false, false, false, false, false, false, false, false, false] rfl rfl (take_ofW HT_.out HW_.out (by kernel_rfl)) (fun _ _ _ h => h) (Or.inl ⟨by rfl, ?_⟩) hHeld ?_ ?_
     rotate_left
     ·rintro w' ⟨s0, s1, s2, s3, s4, s5, s6⟩
      go_simp
      with_reducible rfl
     rotate_left
     ·simp only [Act.put, List.setIfInBounds_toArray, List.set_cons_zero, List.set_cons_succ, i64_w, i32_w]
      rfl
     refine one_ (i := 7) (N := some 12) #[true, true, true, true, true, true, true, true, false, false, false, false, false, false, false, false, false, false, false, false, false, false, false, false, false, false, false, false, false, false] rfl rfl (one_of HT_.out (by kernel_rfl)) (by decide) (fun K hK => ?_)
     refine goes_ Try.func67 (by kernel_rfl) rfl #[.agg #[.int .i64 a0_1, .int .i64 a0_2, .slice A0_3 l0_3.length c0_3]] (by rfl) rfl rfl (by (try simp only [List.map_toArray, List.map_cons, List.map_nil]); first | done | rfl | (simp only [List.length_drop, List.length_take]; rfl)) ?_
     with_reducible refine (spec_TableOk.calls k a0_1 a0_2 _ _ l0_3 true _ ?side1 ?side2 A6.out).mono ?_
     (case side1 => repeat (first | exact (Kd.C_below HR0_3.out (by repeat (first | (with_reducible first | exact HB.out | apply ba | apply bn | apply bd | refine bt ?_ GE173.out) | exact HB.out))) | (with_reducible refine Kd.C_alloc ?_ _) | (with_reducible refine Kd.C_drewN ?_ _) | (with_reducible refine Kd.C_drew ?_)))
     (case side2 => exact HC0_3.out)
     rintro e w10 ⟨rfl, hb⟩
     refine ⟨_, rfl, ?_⟩
     have n0_ := Aside0.mk (blk_below (g := gb173) (o := .cells #[.int .i64 a0_0, .int .i64 a0_1, .int .i64 a0_2, .slice A0_3 l0_3.length c0_3, .slice A0_4 l0_4.length c0_4, .int .i64 a0_5, .int .i64 a0_6] 44 (0, 0)) (by (with_reducible repeat (first | refine blk_drewN ?_ _ | refine blk_drew ?_ | refine blk_alloc ?_ _)); exact BK173.out) hb)
     have n1_ := Aside0.mk (below_step (by repeat (first | (with_reducible first | exact HB.out | apply ba | apply bn | apply bd | refine bt ?_ GE173.out) | exact HB.out)) hb)
     clear BK173
     clear HB
     have BK173 := n0_
     have HB := n1_
     clear n0_ n1_
     (try clear hb)
     (try clear hb2)
     (try clear hk)
     (try clear hi)
     refine hK.out _ _ ⟨cl BK173.out 0 rfl, cl BK173.out 1 rfl, cl BK173.out 2 rfl, cl BK173.out 3 rfl, cl BK173.out 4 rfl, cl BK173.out 5 rfl, cl BK173.out 6 rfl⟩ (fun hHeld => ?_)
     clear hK K
     refine norm_ (a' := ?_) ?_ ?_
     rotate_left
     ·show Act.put _ (some 12) _ = _
      simp only [Act.put, List.setIfInBounds_toArray, List.set_cons_zero, List.set_cons_succ, i64_w, i32_w]
      rfl
     refine pa_ 8 (some 13) (any_of HT_.out (by kernel_rfl)) ?_
     refine pa_ 9 (some 14) (any_of HT_.out (by kernel_rfl)) ?_
     refine pa_ 10 (some 15) (any_of HT_.out (by kernel_rfl)) ?_
     refine pa_ 11 (some 16) (any_of HT_.out (by kernel_rfl)) ?_
     refine take_ (i := 12) (N := some 17) (v := ?_) (a' := ?_) #[true, true, true, true, true, true, true, true, true, true, true, true, true, false, false, false, false, false, false, false, false, false, false, false, false, false, false, false, false, false] rfl rfl (take_ofW HT_.out HW_.out (by kernel_rfl)) (fun _ _ _ h => h) (Or.inl ⟨by rfl, ?_⟩) hHeld ?_ ?_
     rotate_left
     ·rintro w' ⟨s0, s1, s2, s3, s4, s5, s6⟩
      go_simp
      with_reducible rfl
     rotate_left
     ·simp only [Act.put, List.setIfInBounds_toArray, List.set_cons_zero, List.set_cons_succ, i64_w, i32_w]
      rfl
     refine pa_ 13 (some 18) (any_of HT_.out (by kernel_rfl)) ?_
     refine pa_ 14 (some 19) (any_of HT_.out (by kernel_rfl)) ?_
     refine pa_ 15 (some 20) (any_of HT_.out (by kernel_rfl)) ?_
     refine pa_ 16 (some 21) (any_of HT_.out (by kernel_rfl)) ?_
     refine pu_ 17 (some 22) (any_of HT_.out (by kernel_rfl)) ?_
     refine pu_ 18 (some 23) (any_of HT_.out (by kernel_rfl)) ?_
     refine pu_ 19 (some 24) (any_of HT_.out (by kernel_rfl)) ?_
     refine pu_ 20 (some 25) (any_of HT_.out (by kernel_rfl)) ?_
     refine pu_ 21 (some 26) (any_of HT_.out (by kernel_rfl)) ?_
     refine pa_ 22 (some 27) (any_of HT_.out (by kernel_rfl)) ?_
     refine pa_ 23 (some 28) (any_of HT_.out (by kernel_rfl)) ?_
     refine pu_ 24 (some 29) (any_of HT_.out (by kernel_rfl)) ?_
     refine pu_ 25 (some 30) (any_of HT_.out (by kernel_rfl)) ?_
     refine pu_ 26 (some 31) (any_of HT_.out (by kernel_rfl)) ?_
     refine pu_ 27 (some 32) (any_of HT_.out (by kernel_rfl)) ?_
     refine pu_ 28 (some 33) (any_of HT_.out (by kernel_rfl)) ?_
     refine pa_ 29 (some 34) (any_of HT_.out (by kernel_rfl)) ?_
     refine done_ (done_of HT_.out (by kernel_rfl)) ?_
     try go_wp2
     go_meet
     case rel => exact ⟨_, (true), (by first | rfl | (simp; done) | (simp [*]; done)), H', ⟨by first | omega | exact Nat.le_refl _⟩, ⟨by (with_reducible repeat (first | refine blk_drewN ?_ _ | refine blk_drew ?_ | refine blk_alloc ?_ _)); exact BK173.out⟩, ⟨by repeat (first | (with_reducible first | exact HB.out | apply ba | apply bn | apply bd | refine bt ?_ GE173.out) | exact HB.out)⟩⟩
    ·rw [if_neg c8] at H
     have c8b0 : decide (4 < (l0_4.length : Int)) = false := decide_eq_false c8
     have c8b1 : decide (4 < l0_4.length) = false := decide_eq_false (by omega)
     clear c8
     (first | rw [c8b0] | (simp only [i64_w, i32_w]; rw [c8b0]) | skip)
     replace H := Option.bind_eq_some_iff.mp H
     obtain ⟨t176, A110, H⟩ := H
     replace H : ((spec_l6In.f a0_5 1 t176).bind fun t177 => (if t177 = true then ((spec_l2Full.f k).bind fun t178 => ((spec_l6In.f a0_6 0 t178).bind fun t179 => (spec_PlanOk.j0 k (!t179) a0_0 a0_1 a0_2 l0_3 l0_4 a0_5 a0_6))) else (spec_PlanOk.j0 k true a0_0 a0_1 a0_2 l0_3 l0_4 a0_5 a0_6))) = some r := H
     have A11 := Aside0.mk A110
     clear A110
     replace H := Option.bind_eq_some_iff.mp H
     obtain ⟨t177, A120, H⟩ := H
     replace H : (if t177 = true then ((spec_l2Full.f k).bind fun t178 => ((spec_l6In.f a0_6 0 t178).bind fun t179 => (spec_PlanOk.j0 k (!t179) a0_0 a0_1 a0_2 l0_3 l0_4 a0_5 a0_6))) else (spec_PlanOk.j0 k true a0_0 a0_1 a0_2 l0_3 l0_4 a0_5 a0_6)) = some r := H
     have A12 := Aside0.mk A120
     clear A120
     by_cases c13 : t177 = true
     ·subst c13
      have H1 : ((spec_l2Full.f k).bind fun t178 => ((spec_l6In.f a0_6 0 t178).bind fun t179 => (spec_PlanOk.j0 k (!t179) a0_0 a0_1 a0_2 l0_3 l0_4 a0_5 a0_6))) = some r := by rw [if_pos rfl] at H; exact H
      clear H
      have H := H1
      clear H1
      replace H := Option.bind_eq_some_iff.mp H
      obtain ⟨t178, A140, H⟩ := H
      replace H : ((spec_l6In.f a0_6 0 t178).bind fun t179 => (spec_PlanOk.j0 k (!t179) a0_0 a0_1 a0_2 l0_3 l0_4 a0_5 a0_6)) = some r := H
      have A14 := Aside0.mk A140
      clear A140
      replace H := Option.bind_eq_some_iff.mp H
      obtain ⟨t179, A150, H⟩ := H
      replace H : (spec_PlanOk.j0 k (!t179) a0_0 a0_1 a0_2 l0_3 l0_4 a0_5 a0_6) = some r := H
      have A15 := Aside0.mk A150
      clear A150
      have H' := Aside0.mk H
      clear H
      try go_wp2
      have n0_ := Aside0.mk (blk_drew BK173.out)
      have n1_ := Aside0.mk (below_drew1 HB.out)
      clear BK173
      clear HB
      have BK173 := n0_
      have HB := n1_
      clear n0_ n1_
      refine start_ (n := 30) (S := fun w' => w'.cell? ⟨gb173, 0, none⟩ = some (.int .i64 a0_0) ∧ w'.cell? ⟨gb173, 1, none⟩ = some (.int .i64 a0_1) ∧ w'.cell? ⟨gb173, 2, none⟩ = some (.int .i64 a0_2) ∧ w'.cell? ⟨gb173, 3, none⟩ = some (.slice A0_3 l0_3.length c0_3) ∧ w'.cell? ⟨gb173, 4, none⟩ = some (.slice A0_4 l0_4.length c0_4) ∧ w'.cell? ⟨gb173, 5, none⟩ = some (.int .i64 a0_5) ∧ w'.cell? ⟨gb173, 6, none⟩ = some (.int .i64 a0_6)) (ds := []) #[false, false, false, false, false, false, false, false, false, false, false, false, false, false, false, false, false, false, false, false, false, false, false, false, false, false, false, false, false, false] (by kernel_rfl) rfl rfl ⟨cl BK173.out 0 rfl, cl BK173.out 1 rfl, cl BK173.out 2 rfl, cl BK173.out 3 rfl, cl BK173.out 4 rfl, cl BK173.out 5 rfl, cl BK173.out 6 rfl⟩ (fun hHeld => ?_); refine with_tabW spec_PlanOk.tab1 spec_PlanOk.bits1 (fun HT_ HW_ => ?_)
      generalize w3.drew = w16 at BK173 HB hHeld ⊢
      refine pa_ 0 (some 5) (any_of HT_.out (by kernel_rfl)) ?_
      refine take_ (i := 1) (N := some 6) (v := ?_) (a' := ?_) #[true, true, false, false, false, false, false, false, false, false, false, false, false, false, false, false, false, false, false, false, false, false, false, false, false, false, false, false, false, false] rfl rfl (take_ofW HT_.out HW_.out (by kernel_rfl)) (fun _ _ _ h => h) (Or.inl ⟨by rfl, ?_⟩) hHeld ?_ ?_
      rotate_left
      ·rintro w' ⟨s0, s1, s2, s3, s4, s5, s6⟩
       go_simp
       with_reducible rfl
      rotate_left
      ·simp only [Act.put, List.setIfInBounds_toArray, List.set_cons_zero, List.set_cons_succ, i64_w, i32_w]
       rfl
      refine one_ (i := 2) (N := some 7) #[true, true, true, false, false, false, false, false, false, false, false, false, false, false, false, false, false, false, false, false, false, false, false, false, false, false, false, false, false, false] rfl rfl (one_of HT_.out (by kernel_rfl)) (by decide) (fun K hK => ?_)
      refine goes_ Try.func49 (by kernel_rfl) rfl #[.int .i64 a0_0, .int .i64 0, .int .i64 60] (by rfl) rfl rfl (by (try simp only [List.map_toArray, List.map_cons, List.map_nil]); first | done | rfl | (simp only [List.length_drop, List.length_take]; rfl)) ?_
      with_reducible refine (spec_l6In.calls a0_0 0 60 true _ A4.out).mono ?_
      rintro e w' ⟨rfl, ⟨nd, rfl⟩⟩
      refine ⟨_, rfl, ?_⟩
      refine hK.out _ _ ⟨cl BK173.out 0 rfl, cl BK173.out 1 rfl, cl BK173.out 2 rfl, cl BK173.out 3 rfl, cl BK173.out 4 rfl, cl BK173.out 5 rfl, cl BK173.out 6 rfl⟩ (fun hHeld => ?_)
      clear hK K
      refine norm_ (a' := ?_) ?_ ?_
      rotate_left
      ·show Act.put _ (some 7) _ = _
       simp only [Act.put, List.setIfInBounds_toArray, List.set_cons_zero, List.set_cons_succ, i64_w, i32_w]
       rfl
      refine pa_ 3 (some 8) (any_of HT_.out (by kernel_rfl)) ?_
      refine pa_ 4 (some 9) (any_of HT_.out (by kernel_rfl)) ?_
      refine pa_ 5 (some 10) (any_of HT_.out (by kernel_rfl)) ?_
      refine take_ (i := 6) (N := some 11) (v := ?_) (a' := ?_) #[true, true, true, true, true, true, true, false, false, false, false, false, false, false, false, false, false, false, false, false, false, false, false, false, false, false, false, false, false, false] rfl rfl (take_ofW HT_.out HW_.out (by kernel_rfl)) (fun _ _ _ h => h) (Or.inl ⟨by rfl, ?_⟩) hHeld ?_ ?_
      rotate_left
      ·rintro w' ⟨s0, s1, s2, s3, s4, s5, s6⟩
       go_simp
       with_reducible rfl
      rotate_left
      ·simp only [Act.put, List.setIfInBounds_toArray, List.set_cons_zero, List.set_cons_succ, i64_w, i32_w]
       rfl
      refine one_ (i := 7) (N := some 12) #[true, true, true, true, true, true, true, true, false, false, false, false, false, false, false, false, false, false, false, false, false, false, false, false, false, false, false, false, false, false] rfl rfl (one_of HT_.out (by kernel_rfl)) (by decide) (fun K hK => ?_)
      refine goes_ Try.func67 (by kernel_rfl) rfl #[.agg #[.int .i64 a0_1, .int .i64 a0_2, .slice A0_3 l0_3.length c0_3]] (by rfl) rfl rfl (by (try simp only [List.map_toArray, List.map_cons, List.map_nil]); first | done | rfl | (simp only [List.length_drop, List.length_take]; rfl)) ?_
      with_reducible refine (spec_TableOk.calls k a0_1 a0_2 _ _ l0_3 true _ ?side1 ?side2 A6.out).mono ?_
      (case side1 => repeat (first | exact (Kd.C_below HR0_3.out (by repeat (first | (with_reducible first | exact HB.out | apply ba | apply bn | apply bd | refine bt ?_ GE173.out) | exact HB.out))) | (with_reducible refine Kd.C_alloc ?_ _) | (with_reducible refine Kd.C_drewN ?_ _) | (with_reducible refine Kd.C_drew ?_)))
      (case side2 => exact HC0_3.out)
      rintro e w17 ⟨rfl, hb⟩
      refine ⟨_, rfl, ?_⟩
      have n0_ := Aside0.mk (blk_below (g := gb173) (o := .cells #[.int .i64 a0_0, .int .i64 a0_1, .int .i64 a0_2, .slice A0_3 l0_3.length c0_3, .slice A0_4 l0_4.length c0_4, .int .i64 a0_5, .int .i64 a0_6] 44 (0, 0)) (by (with_reducible repeat (first | refine blk_drewN ?_ _ | refine blk_drew ?_ | refine blk_alloc ?_ _)); exact BK173.out) hb)
      have n1_ := Aside0.mk (below_step (by repeat (first | (with_reducible first | exact HB.out | apply ba | apply bn | apply bd | refine bt ?_ GE173.out) | exact HB.out)) hb)
      clear BK173
      clear HB
      have BK173 := n0_
      have HB := n1_
      clear n0_ n1_
      (try clear hb)
      (try clear hb2)
      (try clear hk)
      (try clear hi)
      refine hK.out _ _ ⟨cl BK173.out 0 rfl, cl BK173.out 1 rfl, cl BK173.out 2 rfl, cl BK173.out 3 rfl, cl BK173.out 4 rfl, cl BK173.out 5 rfl, cl BK173.out 6 rfl⟩ (fun hHeld => ?_)
      clear hK K
      refine norm_ (a' := ?_) ?_ ?_
      rotate_left
      ·show Act.put _ (some 12) _ = _
       simp only [Act.put, List.setIfInBounds_toArray, List.set_cons_zero, List.set_cons_succ, i64_w, i32_w]
       rfl
      refine pa_ 8 (some 13) (any_of HT_.out (by kernel_rfl)) ?_
      refine pa_ 9 (some 14) (any_of HT_.out (by kernel_rfl)) ?_
      refine pa_ 10 (some 15) (any_of HT_.out (by kernel_rfl)) ?_
      refine pa_ 11 (some 16) (any_of HT_.out (by kernel_rfl)) ?_
      refine take_ (i := 12) (N := some 17) (v := ?_) (a' := ?_) #[true, true, true, true, true, true, true, true, true, true, true, true, true, false, false, false, false, false, false, false, false, false, false, false, false, false, false, false, false, false] rfl rfl (take_ofW HT_.out HW_.out (by kernel_rfl)) (fun _ _ _ h => h) (Or.inl ⟨by rfl, ?_⟩) hHeld ?_ ?_
      rotate_left
      ·rintro w' ⟨s0, s1, s2, s3, s4, s5, s6⟩
       go_simp
       with_reducible rfl
      rotate_left
      ·simp only [Act.put, List.setIfInBounds_toArray, List.set_cons_zero, List.set_cons_succ, i64_w, i32_w]
       rfl
      refine pa_ 13 (some 18) (any_of HT_.out (by kernel_rfl)) ?_
      refine pa_ 14 (some 19) (any_of HT_.out (by kernel_rfl)) ?_
      refine pa_ 15 (some 20) (any_of HT_.out (by kernel_rfl)) ?_
      refine pa_ 16 (some 21) (any_of HT_.out (by kernel_rfl)) ?_
      refine pa_ 17 (some 22) (any_of HT_.out (by kernel_rfl)) ?_
      refine take_ (i := 18) (N := some 23) (v := ?_) (a' := ?_) #[true, true, true, true, true, true, true, true, true, true, true, true, true, true, true, true, true, true, true, false, false, false, false, false, false, false, false, false, false, false] rfl rfl (take_ofW HT_.out HW_.out (by kernel_rfl)) (fun _ _ _ h => h) (Or.inl ⟨by rfl, ?_⟩) hHeld ?_ ?_
      rotate_left
      ·rintro w' ⟨s0, s1, s2, s3, s4, s5, s6⟩
       go_simp
       with_reducible rfl
      rotate_left
      ·simp only [Act.put, List.setIfInBounds_toArray, List.set_cons_zero, List.set_cons_succ, i64_w, i32_w]
       rfl
      refine one_ (i := 19) (N := some 24) #[true, true, true, true, true, true, true, true, true, true, true, true, true, true, true, true, true, true, true, true, false, false, false, false, false, false, false, false, false, false] rfl rfl (one_of HT_.out (by kernel_rfl)) (by decide) (fun K hK => ?_)
      refine goes_ Try.func68 (by kernel_rfl) rfl #[] (by rfl) rfl rfl (by (try simp only [List.map_toArray, List.map_cons, List.map_nil]); first | done | rfl | (simp only [List.length_drop, List.length_take]; rfl)) ?_
      with_reducible refine (spec_l2Full.calls k  t176 _ A11.out).mono ?_
      rintro e w' ⟨rfl, ⟨nd, rfl⟩⟩
      refine ⟨_, rfl, ?_⟩
      refine hK.out _ _ ⟨cl BK173.out 0 rfl, cl BK173.out 1 rfl, cl BK173.out 2 rfl, cl BK173.out 3 rfl, cl BK173.out 4 rfl, cl BK173.out 5 rfl, cl BK173.out 6 rfl⟩ (fun hHeld => ?_)
      clear hK K
      refine norm_ (a' := ?_) ?_ ?_
      rotate_left
      ·show Act.put _ (some 24) _ = _
       simp only [Act.put, List.setIfInBounds_toArray, List.set_cons_zero, List.set_cons_succ, i64_w, i32_w]
       rfl
      refine one_ (i := 20) (N := some 25) #[true, true, true, true, true, true, true, true, true, true, true, true, true, true, true, true, true, true, true, true, true, false, false, false, false, false, false, false, false, false] rfl rfl (one_of HT_.out (by kernel_rfl)) (by decide) (fun K hK => ?_)
      refine goes_ Try.func49 (by kernel_rfl) rfl #[.int .i64 a0_5, .int .i64 1, .int .i64 t176] (by rfl) rfl rfl (by (try simp only [List.map_toArray, List.map_cons, List.map_nil]); first | done | rfl | (simp only [List.length_drop, List.length_take]; rfl)) ?_
      with_reducible refine (spec_l6In.calls a0_5 1 t176 true _ A12.out).mono ?_
      rintro e w' ⟨rfl, ⟨nd, rfl⟩⟩
      refine ⟨_, rfl, ?_⟩
      refine hK.out _ _ ⟨cl BK173.out 0 rfl, cl BK173.out 1 rfl, cl BK173.out 2 rfl, cl BK173.out 3 rfl, cl BK173.out 4 rfl, cl BK173.out 5 rfl, cl BK173.out 6 rfl⟩ (fun hHeld => ?_)
      clear hK K
      refine norm_ (a' := ?_) ?_ ?_
      rotate_left
      ·show Act.put _ (some 25) _ = _
       simp only [Act.put, List.setIfInBounds_toArray, List.set_cons_zero, List.set_cons_succ, i64_w, i32_w]
       rfl
      refine pa_ 21 (some 26) (any_of HT_.out (by kernel_rfl)) ?_
      refine pa_ 22 (some 27) (any_of HT_.out (by kernel_rfl)) ?_
      refine pa_ 23 (some 28) (any_of HT_.out (by kernel_rfl)) ?_
      refine pa_ 24 (some 29) (any_of HT_.out (by kernel_rfl)) ?_
      refine take_ (i := 25) (N := some 30) (v := ?_) (a' := ?_) #[true, true, true, true, true, true, true, true, true, true, true, true, true, true, true, true, true, true, true, true, true, true, true, true, true, true, false, false, false, false] rfl rfl (take_ofW HT_.out HW_.out (by kernel_rfl)) (fun _ _ _ h => h) (Or.inl ⟨by rfl, ?_⟩) hHeld ?_ ?_
      rotate_left
      ·rintro w' ⟨s0, s1, s2, s3, s4, s5, s6⟩
       go_simp
       with_reducible rfl
      rotate_left
      ·simp only [Act.put, List.setIfInBounds_toArray, List.set_cons_zero, List.set_cons_succ, i64_w, i32_w]
       rfl
      refine one_ (i := 26) (N := some 31) #[true, true, true, true, true, true, true, true, true, true, true, true, true, true, true, true, true, true, true, true, true, true, true, true, true, true, true, false, false, false] rfl rfl (one_of HT_.out (by kernel_rfl)) (by decide) (fun K hK => ?_)
      refine goes_ Try.func68 (by kernel_rfl) rfl #[] (by rfl) rfl rfl (by (try simp only [List.map_toArray, List.map_cons, List.map_nil]); first | done | rfl | (simp only [List.length_drop, List.length_take]; rfl)) ?_
      with_reducible refine (spec_l2Full.calls k  t178 _ A14.out).mono ?_
      rintro e w' ⟨rfl, ⟨nd, rfl⟩⟩
      refine ⟨_, rfl, ?_⟩
      refine hK.out _ _ ⟨cl BK173.out 0 rfl, cl BK173.out 1 rfl, cl BK173.out 2 rfl, cl BK173.out 3 rfl, cl BK173.out 4 rfl, cl BK173.out 5 rfl, cl BK173.out 6 rfl⟩ (fun hHeld => ?_)
      clear hK K
      refine norm_ (a' := ?_) ?_ ?_
      rotate_left
      ·show Act.put _ (some 31) _ = _
       simp only [Act.put, List.setIfInBounds_toArray, List.set_cons_zero, List.set_cons_succ, i64_w, i32_w]
       rfl
      refine one_ (i := 27) (N := some 32) #[true, true, true, true, true, true, true, true, true, true, true, true, true, true, true, true, true, true, true, true, true, true, true, true, true, true, true, true, false, false] rfl rfl (one_of HT_.out (by kernel_rfl)) (by decide) (fun K hK => ?_)
      refine goes_ Try.func49 (by kernel_rfl) rfl #[.int .i64 a0_6, .int .i64 0, .int .i64 t178] (by rfl) rfl rfl (by (try simp only [List.map_toArray, List.map_cons, List.map_nil]); first | done | rfl | (simp only [List.length_drop, List.length_take]; rfl)) ?_
      with_reducible refine (spec_l6In.calls a0_6 0 t178 t179 _ A15.out).mono ?_
      rintro e w' ⟨rfl, ⟨nd, rfl⟩⟩
      refine ⟨_, rfl, ?_⟩
      refine hK.out _ _ ⟨cl BK173.out 0 rfl, cl BK173.out 1 rfl, cl BK173.out 2 rfl, cl BK173.out 3 rfl, cl BK173.out 4 rfl, cl BK173.out 5 rfl, cl BK173.out 6 rfl⟩ (fun hHeld => ?_)
      clear hK K
      refine norm_ (a' := ?_) ?_ ?_
      rotate_left
      ·show Act.put _ (some 32) _ = _
       simp only [Act.put, List.setIfInBounds_toArray, List.set_cons_zero, List.set_cons_succ, i64_w, i32_w]
       rfl
      refine pa_ 28 (some 33) (any_of HT_.out (by kernel_rfl)) ?_
      refine pa_ 29 (some 34) (any_of HT_.out (by kernel_rfl)) ?_
      refine done_ (done_of HT_.out (by kernel_rfl)) ?_
      try go_wp2
      go_meet
      case rel => exact ⟨_, (!t179), (by first | rfl | (simp; done) | (simp [*]; done)), H', ⟨by first | omega | exact Nat.le_refl _⟩, ⟨by (with_reducible repeat (first | refine blk_drewN ?_ _ | refine blk_drew ?_ | refine blk_alloc ?_ _)); exact BK173.out⟩, ⟨by repeat (first | (with_reducible first | exact HB.out | apply ba | apply bn | apply bd | refine bt ?_ GE173.out) | exact HB.out)⟩⟩
     ·replace c13 := Bool.eq_false_iff.mpr c13
      subst c13
      have H1 : (spec_PlanOk.j0 k true a0_0 a0_1 a0_2 l0_3 l0_4 a0_5 a0_6) = some r := by rw [if_neg (show ¬ (false = true) by decide)] at H; exact H
      clear H
      have H := H1
      clear H1
      have H' := Aside0.mk H
      clear H
      try go_wp2
      have n0_ := Aside0.mk (blk_drew BK173.out)
      have n1_ := Aside0.mk (below_drew1 HB.out)
      clear BK173
      clear HB
      have BK173 := n0_
      have HB := n1_
      clear n0_ n1_
      refine start_ (n := 30) (S := fun w' => w'.cell? ⟨gb173, 0, none⟩ = some (.int .i64 a0_0) ∧ w'.cell? ⟨gb173, 1, none⟩ = some (.int .i64 a0_1) ∧ w'.cell? ⟨gb173, 2, none⟩ = some (.int .i64 a0_2) ∧ w'.cell? ⟨gb173, 3, none⟩ = some (.slice A0_3 l0_3.length c0_3) ∧ w'.cell? ⟨gb173, 4, none⟩ = some (.slice A0_4 l0_4.length c0_4) ∧ w'.cell? ⟨gb173, 5, none⟩ = some (.int .i64 a0_5) ∧ w'.cell? ⟨gb173, 6, none⟩ = some (.int .i64 a0_6)) (ds := []) #[false, false, false, false, false, false, false, false, false, false, false, false, false, false, false, false, false, false, false, false, false, false, false, false, false, false, false, false, false, false] (by kernel_rfl) rfl rfl ⟨cl BK173.out 0 rfl, cl BK173.out 1 rfl, cl BK173.out 2 rfl, cl BK173.out 3 rfl, cl BK173.out 4 rfl, cl BK173.out 5 rfl, cl BK173.out 6 rfl⟩ (fun hHeld => ?_); refine with_tabW spec_PlanOk.tab1 spec_PlanOk.bits1 (fun HT_ HW_ => ?_)
      generalize w3.drew = w18 at BK173 HB hHeld ⊢
      refine pa_ 0 (some 5) (any_of HT_.out (by kernel_rfl)) ?_
      refine take_ (i := 1) (N := some 6) (v := ?_) (a' := ?_) #[true, true, false, false, false, false, false, false, false, false, false, false, false, false, false, false, false, false, false, false, false, false, false, false, false, false, false, false, false, false] rfl rfl (take_ofW HT_.out HW_.out (by kernel_rfl)) (fun _ _ _ h => h) (Or.inl ⟨by rfl, ?_⟩) hHeld ?_ ?_
      rotate_left
      ·rintro w' ⟨s0, s1, s2, s3, s4, s5, s6⟩
       go_simp
       with_reducible rfl
      rotate_left
      ·simp only [Act.put, List.setIfInBounds_toArray, List.set_cons_zero, List.set_cons_succ, i64_w, i32_w]
       rfl
      refine one_ (i := 2) (N := some 7) #[true, true, true, false, false, false, false, false, false, false, false, false, false, false, false, false, false, false, false, false, false, false, false, false, false, false, false, false, false, false] rfl rfl (one_of HT_.out (by kernel_rfl)) (by decide) (fun K hK => ?_)
      refine goes_ Try.func49 (by kernel_rfl) rfl #[.int .i64 a0_0, .int .i64 0, .int .i64 60] (by rfl) rfl rfl (by (try simp only [List.map_toArray, List.map_cons, List.map_nil]); first | done | rfl | (simp only [List.length_drop, List.length_take]; rfl)) ?_
      with_reducible refine (spec_l6In.calls a0_0 0 60 true _ A4.out).mono ?_
      rintro e w' ⟨rfl, ⟨nd, rfl⟩⟩
      refine ⟨_, rfl, ?_⟩
      refine hK.out _ _ ⟨cl BK173.out 0 rfl, cl BK173.out 1 rfl, cl BK173.out 2 rfl, cl BK173.out 3 rfl, cl BK173.out 4 rfl, cl BK173.out 5 rfl, cl BK173.out 6 rfl⟩ (fun hHeld => ?_)
      clear hK K
      refine norm_ (a' := ?_) ?_ ?_
      rotate_left
      ·show Act.put _ (some 7) _ = _
       simp only [Act.put, List.setIfInBounds_toArray, List.set_cons_zero, List.set_cons_succ, i64_w, i32_w]
       rfl
      refine pa_ 3 (some 8) (any_of HT_.out (by kernel_rfl)) ?_
      refine pa_ 4 (some 9) (any_of HT_.out (by kernel_rfl)) ?_
      refine pa_ 5 (some 10) (any_of HT_.out (by kernel_rfl)) ?_
      refine take_ (i := 6) (N := some 11) (v := ?_) (a' := ?_) #[true, true, true, true, true, true, true, false, false, false, false, false, false, false, false, false, false, false, false, false, false, false, false, false, false, false, false, false, false, false] rfl rfl (take_ofW HT_.out HW_.out (by kernel_rfl)) (fun _ _ _ h => h) (Or.inl ⟨by rfl, ?_⟩) hHeld ?_ ?_
      rotate_left
      ·rintro w' ⟨s0, s1, s2, s3, s4, s5, s6⟩
       go_simp
       with_reducible rfl
      rotate_left
      ·simp only [Act.put, List.setIfInBounds_toArray, List.set_cons_zero, List.set_cons_succ, i64_w, i32_w]
       rfl
      refine one_ (i := 7) (N := some 12) #[true, true, true, true, true, true, true, true, false, false, false, false, false, false, false, false, false, false, false, false, false, false, false, false, false, false, false, false, false, false] rfl rfl (one_of HT_.out (by kernel_rfl)) (by decide) (fun K hK => ?_)
      refine goes_ Try.func67 (by kernel_rfl) rfl #[.agg #[.int .i64 a0_1, .int .i64 a0_2, .slice A0_3 l0_3.length c0_3]] (by rfl) rfl rfl (by (try simp only [List.map_toArray, List.map_cons, List.map_nil]); first | done | rfl | (simp only [List.length_drop, List.length_take]; rfl)) ?_
      with_reducible refine (spec_TableOk.calls k a0_1 a0_2 _ _ l0_3 true _ ?side1 ?side2 A6.out).mono ?_
      (case side1 => repeat (first | exact (Kd.C_below HR0_3.out (by repeat (first | (with_reducible first | exact HB.out | apply ba | apply bn | apply bd | refine bt ?_ GE173.out) | exact HB.out))) | (with_reducible refine Kd.C_alloc ?_ _) | (with_reducible refine Kd.C_drewN ?_ _) | (with_reducible refine Kd.C_drew ?_)))
      (case side2 => exact HC0_3.out)
      rintro e w19 ⟨rfl, hb⟩
      refine ⟨_, rfl, ?_⟩
      have n0_ := Aside0.mk (blk_below (g := gb173) (o := .cells #[.int .i64 a0_0, .int .i64 a0_1, .int .i64 a0_2, .slice A0_3 l0_3.length c0_3, .slice A0_4 l0_4.length c0_4, .int .i64 a0_5, .int .i64 a0_6] 44 (0, 0)) (by (with_reducible repeat (first | refine blk_drewN ?_ _ | refine blk_drew ?_ | refine blk_alloc ?_ _)); exact BK173.out) hb)
      have n1_ := Aside0.mk (below_step (by repeat (first | (with_reducible first | exact HB.out | apply ba | apply bn | apply bd | refine bt ?_ GE173.out) | exact HB.out)) hb)
      clear BK173
      clear HB
      have BK173 := n0_
      have HB := n1_
      clear n0_ n1_
      (try clear hb)
      (try clear hb2)
      (try clear hk)
      (try clear hi)
      refine hK.out _ _ ⟨cl BK173.out 0 rfl, cl BK173.out 1 rfl, cl BK173.out 2 rfl, cl BK173.out 3 rfl, cl BK173.out 4 rfl, cl BK173.out 5 rfl, cl BK173.out 6 rfl⟩ (fun hHeld => ?_)
      clear hK K
      refine norm_ (a' := ?_) ?_ ?_
      rotate_left
      ·show Act.put _ (some 12) _ = _
       simp only [Act.put, List.setIfInBounds_toArray, List.set_cons_zero, List.set_cons_succ, i64_w, i32_w]
       rfl
      refine pa_ 8 (some 13) (any_of HT_.out (by kernel_rfl)) ?_
      refine pa_ 9 (some 14) (any_of HT_.out (by kernel_rfl)) ?_
      refine pa_ 10 (some 15) (any_of HT_.out (by kernel_rfl)) ?_
      refine pa_ 11 (some 16) (any_of HT_.out (by kernel_rfl)) ?_
      refine take_ (i := 12) (N := some 17) (v := ?_) (a' := ?_) #[true, true, true, true, true, true, true, true, true, true, true, true, true, false, false, false, false, false, false, false, false, false, false, false, false, false, false, false, false, false] rfl rfl (take_ofW HT_.out HW_.out (by kernel_rfl)) (fun _ _ _ h => h) (Or.inl ⟨by rfl, ?_⟩) hHeld ?_ ?_
      rotate_left
      ·rintro w' ⟨s0, s1, s2, s3, s4, s5, s6⟩
       go_simp
       with_reducible rfl
      rotate_left
      ·simp only [Act.put, List.setIfInBounds_toArray, List.set_cons_zero, List.set_cons_succ, i64_w, i32_w]
       rfl
      refine pa_ 13 (some 18) (any_of HT_.out (by kernel_rfl)) ?_
      refine pa_ 14 (some 19) (any_of HT_.out (by kernel_rfl)) ?_
      refine pa_ 15 (some 20) (any_of HT_.out (by kernel_rfl)) ?_
      refine pa_ 16 (some 21) (any_of HT_.out (by kernel_rfl)) ?_
      refine pa_ 17 (some 22) (any_of HT_.out (by kernel_rfl)) ?_
      refine take_ (i := 18) (N := some 23) (v := ?_) (a' := ?_) #[true, true, true, true, true, true, true, true, true, true, true, true, true, true, true, true, true, true, true, false, false, false, false, false, false, false, false, false, false, false] rfl rfl (take_ofW HT_.out HW_.out (by kernel_rfl)) (fun _ _ _ h => h) (Or.inl ⟨by rfl, ?_⟩) hHeld ?_ ?_
      rotate_left
      ·rintro w' ⟨s0, s1, s2, s3, s4, s5, s6⟩
       go_simp
       with_reducible rfl
      rotate_left
      ·simp only [Act.put, List.setIfInBounds_toArray, List.set_cons_zero, List.set_cons_succ, i64_w, i32_w]
       rfl
      refine one_ (i := 19) (N := some 24) #[true, true, true, true, true, true, true, true, true, true, true, true, true, true, true, true, true, true, true, true, false, false, false, false, false, false, false, false, false, false] rfl rfl (one_of HT_.out (by kernel_rfl)) (by decide) (fun K hK => ?_)
      refine goes_ Try.func68 (by kernel_rfl) rfl #[] (by rfl) rfl rfl (by (try simp only [List.map_toArray, List.map_cons, List.map_nil]); first | done | rfl | (simp only [List.length_drop, List.length_take]; rfl)) ?_
      with_reducible refine (spec_l2Full.calls k  t176 _ A11.out).mono ?_
      rintro e w' ⟨rfl, ⟨nd, rfl⟩⟩
      refine ⟨_, rfl, ?_⟩
      refine hK.out _ _ ⟨cl BK173.out 0 rfl, cl BK173.out 1 rfl, cl BK173.out 2 rfl, cl BK173.out 3 rfl, cl BK173.out 4 rfl, cl BK173.out 5 rfl, cl BK173.out 6 rfl⟩ (fun hHeld => ?_)
      clear hK K
      refine norm_ (a' := ?_) ?_ ?_
      rotate_left
      ·show Act.put _ (some 24) _ = _
       simp only [Act.put, List.setIfInBounds_toArray, List.set_cons_zero, List.set_cons_succ, i64_w, i32_w]
       rfl
      refine one_ (i := 20) (N := some 25) #[true, true, true, true, true, true, true, true, true, true, true, true, true, true, true, true, true, true, true, true, true, false, false, false, false, false, false, false, false, false] rfl rfl (one_of HT_.out (by kernel_rfl)) (by decide) (fun K hK => ?_)
      refine goes_ Try.func49 (by kernel_rfl) rfl #[.int .i64 a0_5, .int .i64 1, .int .i64 t176] (by rfl) rfl rfl (by (try simp only [List.map_toArray, List.map_cons, List.map_nil]); first | done | rfl | (simp only [List.length_drop, List.length_take]; rfl)) ?_
      with_reducible refine (spec_l6In.calls a0_5 1 t176 false _ A12.out).mono ?_
      rintro e w' ⟨rfl, ⟨nd, rfl⟩⟩
      refine ⟨_, rfl, ?_⟩
      refine hK.out _ _ ⟨cl BK173.out 0 rfl, cl BK173.out 1 rfl, cl BK173.out 2 rfl, cl BK173.out 3 rfl, cl BK173.out 4 rfl, cl BK173.out 5 rfl, cl BK173.out 6 rfl⟩ (fun hHeld => ?_)
      clear hK K
      refine norm_ (a' := ?_) ?_ ?_
      rotate_left
      ·show Act.put _ (some 25) _ = _
       simp only [Act.put, List.setIfInBounds_toArray, List.set_cons_zero, List.set_cons_succ, i64_w, i32_w]
       rfl
      refine pa_ 21 (some 26) (any_of HT_.out (by kernel_rfl)) ?_
      refine pa_ 22 (some 27) (any_of HT_.out (by kernel_rfl)) ?_
      refine pa_ 23 (some 28) (any_of HT_.out (by kernel_rfl)) ?_
      refine pu_ 24 (some 29) (any_of HT_.out (by kernel_rfl)) ?_
      refine pu_ 25 (some 30) (any_of HT_.out (by kernel_rfl)) ?_
      refine pu_ 26 (some 31) (any_of HT_.out (by kernel_rfl)) ?_
      refine pu_ 27 (some 32) (any_of HT_.out (by kernel_rfl)) ?_
      refine pu_ 28 (some 33) (any_of HT_.out (by kernel_rfl)) ?_
      refine pa_ 29 (some 34) (any_of HT_.out (by kernel_rfl)) ?_
      refine done_ (done_of HT_.out (by kernel_rfl)) ?_
      try go_wp2
      go_meet
      case rel => exact ⟨_, (true), (by first | rfl | (simp; done) | (simp [*]; done)), H', ⟨by first | omega | exact Nat.le_refl _⟩, ⟨by (with_reducible repeat (first | refine blk_drewN ?_ _ | refine blk_drew ?_ | refine blk_alloc ?_ _)); exact BK173.out⟩, ⟨by repeat (first | (with_reducible first | exact HB.out | apply ba | apply bn | apply bd | refine bt ?_ GE173.out) | exact HB.out)⟩⟩
   ·replace c7 := Bool.eq_false_iff.mpr c7
    subst c7
    have H1 : (spec_PlanOk.j0 k true a0_0 a0_1 a0_2 l0_3 l0_4 a0_5 a0_6) = some r := by rw [if_neg (show ¬ (false = true) by decide)] at H; exact H
    clear H
    have H := H1
    clear H1
    have H' := Aside0.mk H
    clear H
    try go_wp2
    have n0_ := Aside0.mk (blk_drew BK173.out)
    have n1_ := Aside0.mk (below_drew1 HB.out)
    clear BK173
    clear HB
    have BK173 := n0_
    have HB := n1_
    clear n0_ n1_
    refine start_ (n := 30) (S := fun w' => w'.cell? ⟨gb173, 0, none⟩ = some (.int .i64 a0_0) ∧ w'.cell? ⟨gb173, 1, none⟩ = some (.int .i64 a0_1) ∧ w'.cell? ⟨gb173, 2, none⟩ = some (.int .i64 a0_2) ∧ w'.cell? ⟨gb173, 3, none⟩ = some (.slice A0_3 l0_3.length c0_3) ∧ w'.cell? ⟨gb173, 4, none⟩ = some (.slice A0_4 l0_4.length c0_4) ∧ w'.cell? ⟨gb173, 5, none⟩ = some (.int .i64 a0_5) ∧ w'.cell? ⟨gb173, 6, none⟩ = some (.int .i64 a0_6)) (ds := []) #[false, false, false, false, false, false, false, false, false, false, false, false, false, false, false, false, false, false, false, false, false, false, false, false, false, false, false, false, false, false] (by kernel_rfl) rfl rfl ⟨cl BK173.out 0 rfl, cl BK173.out 1 rfl, cl BK173.out 2 rfl, cl BK173.out 3 rfl, cl BK173.out 4 rfl, cl BK173.out 5 rfl, cl BK173.out 6 rfl⟩ (fun hHeld => ?_); refine with_tabW spec_PlanOk.tab1 spec_PlanOk.bits1 (fun HT_ HW_ => ?_)
    generalize w3.drew = w20 at BK173 HB hHeld ⊢
    refine pa_ 0 (some 5) (any_of HT_.out (by kernel_rfl)) ?_
    refine take_ (i := 1) (N := some 6) (v := ?_) (a' := ?_) #[true, true, false, false, false, false, false, false, false, false, false, false, false, false, false, false, false, false, false, false, false, false, false, false, false, false, false, false, false, false] rfl rfl (take_ofW HT_.out HW_.out (by kernel_rfl)) (fun _ _ _ h => h) (Or.inl ⟨by rfl, ?_⟩) hHeld ?_ ?_
    rotate_left
    ·rintro w' ⟨s0, s1, s2, s3, s4, s5, s6⟩
     go_simp
     with_reducible rfl
    rotate_left
    ·simp only [Act.put, List.setIfInBounds_toArray, List.set_cons_zero, List.set_cons_succ, i64_w, i32_w]
     rfl
    refine one_ (i := 2) (N := some 7) #[true, true, true, false, false, false, false, false, false, false, false, false, false, false, false, false, false, false, false, false, false, false, false, false, false, false, false, false, false, false] rfl rfl (one_of HT_.out (by kernel_rfl)) (by decide) (fun K hK => ?_)
    refine goes_ Try.func49 (by kernel_rfl) rfl #[.int .i64 a0_0, .int .i64 0, .int .i64 60] (by rfl) rfl rfl (by (try simp only [List.map_toArray, List.map_cons, List.map_nil]); first | done | rfl | (simp only [List.length_drop, List.length_take]; rfl)) ?_
    with_reducible refine (spec_l6In.calls a0_0 0 60 true _ A4.out).mono ?_
    rintro e w' ⟨rfl, ⟨nd, rfl⟩⟩
    refine ⟨_, rfl, ?_⟩
    refine hK.out _ _ ⟨cl BK173.out 0 rfl, cl BK173.out 1 rfl, cl BK173.out 2 rfl, cl BK173.out 3 rfl, cl BK173.out 4 rfl, cl BK173.out 5 rfl, cl BK173.out 6 rfl⟩ (fun hHeld => ?_)
    clear hK K
    refine norm_ (a' := ?_) ?_ ?_
    rotate_left
    ·show Act.put _ (some 7) _ = _
     simp only [Act.put, List.setIfInBounds_toArray, List.set_cons_zero, List.set_cons_succ, i64_w, i32_w]
     rfl
    refine pa_ 3 (some 8) (any_of HT_.out (by kernel_rfl)) ?_
    refine pa_ 4 (some 9) (any_of HT_.out (by kernel_rfl)) ?_
    refine pa_ 5 (some 10) (any_of HT_.out (by kernel_rfl)) ?_
    refine take_ (i := 6) (N := some 11) (v := ?_) (a' := ?_) #[true, true, true, true, true, true, true, false, false, false, false, false, false, false, false, false, false, false, false, false, false, false, false, false, false, false, false, false, false, false] rfl rfl (take_ofW HT_.out HW_.out (by kernel_rfl)) (fun _ _ _ h => h) (Or.inl ⟨by rfl, ?_⟩) hHeld ?_ ?_
    rotate_left
    ·rintro w' ⟨s0, s1, s2, s3, s4, s5, s6⟩
     go_simp
     with_reducible rfl
    rotate_left
    ·simp only [Act.put, List.setIfInBounds_toArray, List.set_cons_zero, List.set_cons_succ, i64_w, i32_w]
     rfl
    refine one_ (i := 7) (N := some 12) #[true, true, true, true, true, true, true, true, false, false, false, false, false, false, false, false, false, false, false, false, false, false, false, false, false, false, false, false, false, false] rfl rfl (one_of HT_.out (by kernel_rfl)) (by decide) (fun K hK => ?_)
    refine goes_ Try.func67 (by kernel_rfl) rfl #[.agg #[.int .i64 a0_1, .int .i64 a0_2, .slice A0_3 l0_3.length c0_3]] (by rfl) rfl rfl (by (try simp only [List.map_toArray, List.map_cons, List.map_nil]); first | done | rfl | (simp only [List.length_drop, List.length_take]; rfl)) ?_
    with_reducible refine (spec_TableOk.calls k a0_1 a0_2 _ _ l0_3 false _ ?side1 ?side2 A6.out).mono ?_
    (case side1 => repeat (first | exact (Kd.C_below HR0_3.out (by repeat (first | (with_reducible first | exact HB.out | apply ba | apply bn | apply bd | refine bt ?_ GE173.out) | exact HB.out))) | (with_reducible refine Kd.C_alloc ?_ _) | (with_reducible refine Kd.C_drewN ?_ _) | (with_reducible refine Kd.C_drew ?_)))
    (case side2 => exact HC0_3.out)
    rintro e w21 ⟨rfl, hb⟩
    refine ⟨_, rfl, ?_⟩
    have n0_ := Aside0.mk (blk_below (g := gb173) (o := .cells #[.int .i64 a0_0, .int .i64 a0_1, .int .i64 a0_2, .slice A0_3 l0_3.length c0_3, .slice A0_4 l0_4.length c0_4, .int .i64 a0_5, .int .i64 a0_6] 44 (0, 0)) (by (with_reducible repeat (first | refine blk_drewN ?_ _ | refine blk_drew ?_ | refine blk_alloc ?_ _)); exact BK173.out) hb)
    have n1_ := Aside0.mk (below_step (by repeat (first | (with_reducible first | exact HB.out | apply ba | apply bn | apply bd | refine bt ?_ GE173.out) | exact HB.out)) hb)
    clear BK173
    clear HB
    have BK173 := n0_
    have HB := n1_
    clear n0_ n1_
    (try clear hb)
    (try clear hb2)
    (try clear hk)
    (try clear hi)
    refine hK.out _ _ ⟨cl BK173.out 0 rfl, cl BK173.out 1 rfl, cl BK173.out 2 rfl, cl BK173.out 3 rfl, cl BK173.out 4 rfl, cl BK173.out 5 rfl, cl BK173.out 6 rfl⟩ (fun hHeld => ?_)
    clear hK K
    refine norm_ (a' := ?_) ?_ ?_
    rotate_left
    ·show Act.put _ (some 12) _ = _
     simp only [Act.put, List.setIfInBounds_toArray, List.set_cons_zero, List.set_cons_succ, i64_w, i32_w]
     rfl
    refine pa_ 8 (some 13) (any_of HT_.out (by kernel_rfl)) ?_
    refine pa_ 9 (some 14) (any_of HT_.out (by kernel_rfl)) ?_
    refine pa_ 10 (some 15) (any_of HT_.out (by kernel_rfl)) ?_
    refine pu_ 11 (some 16) (any_of HT_.out (by kernel_rfl)) ?_
    refine pu_ 12 (some 17) (any_of HT_.out (by kernel_rfl)) ?_
    refine pu_ 13 (some 18) (any_of HT_.out (by kernel_rfl)) ?_
    refine pu_ 14 (some 19) (any_of HT_.out (by kernel_rfl)) ?_
    refine pa_ 15 (some 20) (any_of HT_.out (by kernel_rfl)) ?_
    refine pa_ 16 (some 21) (any_of HT_.out (by kernel_rfl)) ?_
    refine pu_ 17 (some 22) (any_of HT_.out (by kernel_rfl)) ?_
    refine pu_ 18 (some 23) (any_of HT_.out (by kernel_rfl)) ?_
    refine pu_ 19 (some 24) (any_of HT_.out (by kernel_rfl)) ?_
    refine pu_ 20 (some 25) (any_of HT_.out (by kernel_rfl)) ?_
    refine pu_ 21 (some 26) (any_of HT_.out (by kernel_rfl)) ?_
    refine pa_ 22 (some 27) (any_of HT_.out (by kernel_rfl)) ?_
    refine pa_ 23 (some 28) (any_of HT_.out (by kernel_rfl)) ?_
    refine pu_ 24 (some 29) (any_of HT_.out (by kernel_rfl)) ?_
    refine pu_ 25 (some 30) (any_of HT_.out (by kernel_rfl)) ?_
    refine pu_ 26 (some 31) (any_of HT_.out (by kernel_rfl)) ?_
    refine pu_ 27 (some 32) (any_of HT_.out (by kernel_rfl)) ?_
    refine pu_ 28 (some 33) (any_of HT_.out (by kernel_rfl)) ?_
    refine pa_ 29 (some 34) (any_of HT_.out (by kernel_rfl)) ?_
    refine done_ (done_of HT_.out (by kernel_rfl)) ?_
    try go_wp2
    go_meet
    case rel => exact ⟨_, (true), (by first | rfl | (simp; done) | (simp [*]; done)), H', ⟨by first | omega | exact Nat.le_refl _⟩, ⟨by (with_reducible repeat (first | refine blk_drewN ?_ _ | refine blk_drew ?_ | refine blk_alloc ?_ _)); exact BK173.out⟩, ⟨by repeat (first | (with_reducible first | exact HB.out | apply ba | apply bn | apply bd | refine bt ?_ GE173.out) | exact HB.out)⟩⟩
  ·replace c5 := Bool.eq_false_iff.mpr c5
   subst c5
   have H1 : (spec_PlanOk.j0 k true a0_0 a0_1 a0_2 l0_3 l0_4 a0_5 a0_6) = some r := by rw [if_neg (show ¬ (false = true) by decide)] at H; exact H
   clear H
   have H := H1
   clear H1
   have H' := Aside0.mk H
   clear H
   try go_wp2
   have n0_ := Aside0.mk (blk_drew BK173.out)
   have n1_ := Aside0.mk (below_drew1 HB.out)
   clear BK173
   clear HB
   have BK173 := n0_
   have HB := n1_
   clear n0_ n1_
   refine start_ (n := 30) (S := fun w' => w'.cell? ⟨gb173, 0, none⟩ = some (.int .i64 a0_0) ∧ w'.cell? ⟨gb173, 1, none⟩ = some (.int .i64 a0_1) ∧ w'.cell? ⟨gb173, 2, none⟩ = some (.int .i64 a0_2) ∧ w'.cell? ⟨gb173, 3, none⟩ = some (.slice A0_3 l0_3.length c0_3) ∧ w'.cell? ⟨gb173, 4, none⟩ = some (.slice A0_4 l0_4.length c0_4) ∧ w'.cell? ⟨gb173, 5, none⟩ = some (.int .i64 a0_5) ∧ w'.cell? ⟨gb173, 6, none⟩ = some (.int .i64 a0_6)) (ds := []) #[false, false, false, false, false, false, false, false, false, false, false, false, false, false, false, false, false, false, false, false, false, false, false, false, false, false, false, false, false, false] (by kernel_rfl) rfl rfl ⟨cl BK173.out 0 rfl, cl BK173.out 1 rfl, cl BK173.out 2 rfl, cl BK173.out 3 rfl, cl BK173.out 4 rfl, cl BK173.out 5 rfl, cl BK173.out 6 rfl⟩ (fun hHeld => ?_); refine with_tabW spec_PlanOk.tab1 spec_PlanOk.bits1 (fun HT_ HW_ => ?_)
   generalize w3.drew = w22 at BK173 HB hHeld ⊢
   refine pa_ 0 (some 5) (any_of HT_.out (by kernel_rfl)) ?_
   refine take_ (i := 1) (N := some 6) (v := ?_) (a' := ?_) #[true, true, false, false, false, false, false, false, false, false, false, false, false, false, false, false, false, false, false, false, false, false, false, false, false, false, false, false, false, false] rfl rfl (take_ofW HT_.out HW_.out (by kernel_rfl)) (fun _ _ _ h => h) (Or.inl ⟨by rfl, ?_⟩) hHeld ?_ ?_
   rotate_left
   ·rintro w' ⟨s0, s1, s2, s3, s4, s5, s6⟩
    go_simp
    with_reducible rfl
   rotate_left
   ·simp only [Act.put, List.setIfInBounds_toArray, List.set_cons_zero, List.set_cons_succ, i64_w, i32_w]
    rfl
   refine one_ (i := 2) (N := some 7) #[true, true, true, false, false, false, false, false, false, false, false, false, false, false, false, false, false, false, false, false, false, false, false, false, false, false, false, false, false, false] rfl rfl (one_of HT_.out (by kernel_rfl)) (by decide) (fun K hK => ?_)
   refine goes_ Try.func49 (by kernel_rfl) rfl #[.int .i64 a0_0, .int .i64 0, .int .i64 60] (by rfl) rfl rfl (by (try simp only [List.map_toArray, List.map_cons, List.map_nil]); first | done | rfl | (simp only [List.length_drop, List.length_take]; rfl)) ?_
   with_reducible refine (spec_l6In.calls a0_0 0 60 false _ A4.out).mono ?_
   rintro e w' ⟨rfl, ⟨nd, rfl⟩⟩
   refine ⟨_, rfl, ?_⟩
   refine hK.out _ _ ⟨cl BK173.out 0 rfl, cl BK173.out 1 rfl, cl BK173.out 2 rfl, cl BK173.out 3 rfl, cl BK173.out 4 rfl, cl BK173.out 5 rfl, cl BK173.out 6 rfl⟩ (fun hHeld => ?_)
   clear hK K
   refine norm_ (a' := ?_) ?_ ?_
   rotate_left
   ·show Act.put _ (some 7) _ = _
    simp only [Act.put, List.setIfInBounds_toArray, List.set_cons_zero, List.set_cons_succ, i64_w, i32_w]
    rfl
   refine pa_ 3 (some 8) (any_of HT_.out (by kernel_rfl)) ?_
   refine pa_ 4 (some 9) (any_of HT_.out (by kernel_rfl)) ?_
   refine pu_ 5 (some 10) (any_of HT_.out (by kernel_rfl)) ?_
   refine pu_ 6 (some 11) (any_of HT_.out (by kernel_rfl)) ?_
   refine pu_ 7 (some 12) (any_of HT_.out (by kernel_rfl)) ?_
   refine pu_ 8 (some 13) (any_of HT_.out (by kernel_rfl)) ?_
   refine pa_ 9 (some 14) (any_of HT_.out (by kernel_rfl)) ?_
   refine pa_ 10 (some 15) (any_of HT_.out (by kernel_rfl)) ?_
   refine pu_ 11 (some 16) (any_of HT_.out (by kernel_rfl)) ?_
   refine pu_ 12 (some 17) (any_of HT_.out (by kernel_rfl)) ?_
   refine pu_ 13 (some 18) (any_of HT_.out (by kernel_rfl)) ?_
   refine pu_ 14 (some 19) (any_of HT_.out (by kernel_rfl)) ?_
   refine pa_ 15 (some 20) (any_of HT_.out (by kernel_rfl)) ?_
   refine pa_ 16 (some 21) (any_of HT_.out (by kernel_rfl)) ?_
   refine pu_ 17 (some 22) (any_of HT_.out (by kernel_rfl)) ?_
   refine pu_ 18 (some 23) (any_of HT_.out (by kernel_rfl)) ?_
   refine pu_ 19 (some 24) (any_of HT_.out (by kernel_rfl)) ?_
   refine pu_ 20 (some 25) (any_of HT_.out (by kernel_rfl)) ?_
   refine pu_ 21 (some 26) (any_of HT_.out (by kernel_rfl)) ?_
   refine pa_ 22 (some 27) (any_of HT_.out (by kernel_rfl)) ?_
   refine pa_ 23 (some 28) (any_of HT_.out (by kernel_rfl)) ?_
   refine pu_ 24 (some 29) (any_of HT_.out (by kernel_rfl)) ?_
   refine pu_ 25 (some 30) (any_of HT_.out (by kernel_rfl)) ?_
   refine pu_ 26 (some 31) (any_of HT_.out (by kernel_rfl)) ?_
   refine pu_ 27 (some 32) (any_of HT_.out (by kernel_rfl)) ?_
   refine pu_ 28 (some 33) (any_of HT_.out (by kernel_rfl)) ?_
   refine pa_ 29 (some 34) (any_of HT_.out (by kernel_rfl)) ?_
   refine done_ (done_of HT_.out (by kernel_rfl)) ?_
   try go_wp2
   go_meet
   case rel => exact ⟨_, (true), (by first | rfl | (simp; done) | (simp [*]; done)), H', ⟨by first | omega | exact Nat.le_refl _⟩, ⟨by (with_reducible repeat (first | refine blk_drewN ?_ _ | refine blk_drew ?_ | refine blk_alloc ?_ _)); exact BK173.out⟩, ⟨by repeat (first | (with_reducible first | exact HB.out | apply ba | apply bn | apply bd | refine bt ?_ GE173.out) | exact HB.out)⟩⟩
 case rest =>
  clear HC2
  try clear p2
  try clear c4
  try clear c5
  try clear c6
  try clear c7
  obtain ⟨kq, x34_1, rfl, HA, HJ1, BK173, HB⟩ := hcut
  cases kq with
  | zero => exact absurd HA.out (by simp [spec_PlanOk.j0])
  | succ kj1 =>
   have H := HA.out
   clear HA
   simp only [spec_PlanOk.j0] at H
   by_cases c23 : x34_1 = true
   ·subst c23
    have H1 : (some false) = some r := by rw [if_pos rfl] at H; exact H
    clear H
    have H := H1
    clear H1
    obtain rfl := Option.some.inj H
    go_wp2
    go_ret
    exact ⟨by first | rfl | (simp [errW_none, errW_some] <;> rfl) | (simp [*, errW_none, errW_some] <;> rfl), by repeat (first | (with_reducible first | exact HB.out | apply ba | apply bn | apply bd | refine bt ?_ GE173.out) | exact HB.out)⟩
   ·replace c23 := Bool.eq_false_iff.mpr c23
    subst c23
    have H1 : (spec_PlanOk.l0 kj1 0 a0_0 a0_1 a0_2 l0_3 l0_4 a0_5 a0_6) = some r := by rw [if_neg (show ¬ (false = true) by decide)] at H; exact H
    clear H
    have H := H1
    clear H1
    have H' := Aside0.mk H
    clear H
    go_wp2
    go_loopg [3] kj1 (fun kq v3 w' => ∃ (x3_2 : Int), v3 = .int .i64 x3_2 ∧ Aside0 (spec_PlanOk.l0 kq x3_2 a0_0 a0_1 a0_2 l0_3 l0_4 a0_5 a0_6 = some r) ∧ Aside0 (kq ≤ kj1) ∧ Aside0 (w'.heap[gb173]? = some (.cells #[.int .i64 a0_0, .int .i64 a0_1, .int .i64 a0_2, (.slice A0_3 l0_3.length c0_3), (.slice A0_4 l0_4.length c0_4), .int .i64 a0_5, .int .i64 a0_6] 44 (0, 0))) ∧ Aside0 (Below w.heap.size w w'))
    case atStart => exact ⟨(0), (by first | rfl | (simp; done) | (simp [*]; done)), H', ⟨Nat.le_refl _⟩, ⟨by (with_reducible repeat (first | refine blk_drewN ?_ _ | refine blk_drew ?_ | refine blk_alloc ?_ _)); exact BK173.out⟩, ⟨by repeat (first | (with_reducible first | exact HB.out | apply ba | apply bn | apply bd | refine bt ?_ GE173.out) | exact HB.out)⟩⟩
    case round =>
     clear H'
     try clear c2
     try clear p2
     try clear c4
     try clear c5
     try clear c6
     try clear c7
     try clear c23
     try clear p2
     obtain ⟨x3_2, rfl, HA, HK2, BK173, HB⟩ := hrel
     cases gk with
     | zero => exact absurd HA.out (by simp [spec_PlanOk.l0])
     | succ k2 =>
      have H := HA.out
      clear HA
      simp only [spec_PlanOk.l0] at H
      by_cases c24 : x3_2 < (l0_4.length : Int)
      ·rw [if_pos c24] at H
       have c24b0 : decide (x3_2 < (l0_4.length : Int)) = true := decide_eq_true c24
       clear c24
       by_cases c25 : 0 ≤ x3_2
       ·rw [if_pos c25] at H
        have c25b0 : decide (0 ≤ x3_2) = true := decide_eq_true c25
        clear c25
        replace H := Option.bind_eq_some_iff.mp H
        obtain ⟨t182, A260, H⟩ := H
        replace H : (if t182 = true then ((spec_l6In.f ((rd_T97 l0_4 x3_2).f1) 1 9999).bind fun t183 => (if t183 = true then ((spec_l6In.f ((rd_T97 l0_4 x3_2).f2) (-1) 10).bind fun t184 => (if t184 = true then (if x3_2 > 0 then (if 0 ≤ (wrap64 (x3_2 - 1)) then (if (wrap64 (x3_2 - 1)) < (l0_4.length : Int) then (if ((rd_T97 l0_4 (wrap64 (x3_2 - 1))).f0) ≥ ((rd_T97 l0_4 x3_2).f0) then (some false) else (spec_PlanOk.l0 k2 (wrap64 (x3_2 + 1)) a0_0 a0_1 a0_2 l0_3 l0_4 a0_5 a0_6)) else (none)) else (none)) else (spec_PlanOk.l0 k2 (wrap64 (x3_2 + 1)) a0_0 a0_1 a0_2 l0_3 l0_4 a0_5 a0_6)) else (some false))) else (some false))) else (some false)) = some r := H
        have A26 := Aside0.mk A260
        clear A260
        by_cases c27 : t182 = true
        ·subst c27
         have H1 : ((spec_l6In.f ((rd_T97 l0_4 x3_2).f1) 1 9999).bind fun t183 => (if t183 = true then ((spec_l6In.f ((rd_T97 l0_4 x3_2).f2) (-1) 10).bind fun t184 => (if t184 = true then (if x3_2 > 0 then (if 0 ≤ (wrap64 (x3_2 - 1)) then (if (wrap64 (x3_2 - 1)) < (l0_4.length : Int) then (if ((rd_T97 l0_4 (wrap64 (x3_2 - 1))).f0) ≥ ((rd_T97 l0_4 x3_2).f0) then (some false) else (spec_PlanOk.l0 k2 (wrap64 (x3_2 + 1)) a0_0 a0_1 a0_2 l0_3 l0_4 a0_5 a0_6)) else (none)) else (none)) else (spec_PlanOk.l0 k2 (wrap64 (x3_2 + 1)) a0_0 a0_1 a0_2 l0_3 l0_4 a0_5 a0_6)) else (some false))) else (some false))) = some r := by rw [if_pos rfl] at H; exact H
         clear H
         have H := H1
         clear H1
         replace H := Option.bind_eq_some_iff.mp H
         obtain ⟨t183, A280, H⟩ := H
         replace H : (if t183 = true then ((spec_l6In.f ((rd_T97 l0_4 x3_2).f2) (-1) 10).bind fun t184 => (if t184 = true then (if x3_2 > 0 then (if 0 ≤ (wrap64 (x3_2 - 1)) then (if (wrap64 (x3_2 - 1)) < (l0_4.length : Int) then (if ((rd_T97 l0_4 (wrap64 (x3_2 - 1))).f0) ≥ ((rd_T97 l0_4 x3_2).f0) then (some false) else (spec_PlanOk.l0 k2 (wrap64 (x3_2 + 1)) a0_0 a0_1 a0_2 l0_3 l0_4 a0_5 a0_6)) else (none)) else (none)) else (spec_PlanOk.l0 k2 (wrap64 (x3_2 + 1)) a0_0 a0_1 a0_2 l0_3 l0_4 a0_5 a0_6)) else (some false))) else (some false)) = some r := H
         have A28 := Aside0.mk A280
         clear A280
         by_cases c29 : t183 = true
         ·subst c29
          have H1 : ((spec_l6In.f ((rd_T97 l0_4 x3_2).f2) (-1) 10).bind fun t184 => (if t184 = true then (if x3_2 > 0 then (if 0 ≤ (wrap64 (x3_2 - 1)) then (if (wrap64 (x3_2 - 1)) < (l0_4.length : Int) then (if ((rd_T97 l0_4 (wrap64 (x3_2 - 1))).f0) ≥ ((rd_T97 l0_4 x3_2).f0) then (some false) else (spec_PlanOk.l0 k2 (wrap64 (x3_2 + 1)) a0_0 a0_1 a0_2 l0_3 l0_4 a0_5 a0_6)) else (none)) else (none)) else (spec_PlanOk.l0 k2 (wrap64 (x3_2 + 1)) a0_0 a0_1 a0_2 l0_3 l0_4 a0_5 a0_6)) else (some false))) = some r := by rw [if_pos rfl] at H; exact H
          clear H
          have H := H1
          clear H1
          replace H := Option.bind_eq_some_iff.mp H
          obtain ⟨t184, A300, H⟩ := H
          replace H : (if t184 = true then (if x3_2 > 0 then (if 0 ≤ (wrap64 (x3_2 - 1)) then (if (wrap64 (x3_2 - 1)) < (l0_4.length : Int) then (if ((rd_T97 l0_4 (wrap64 (x3_2 - 1))).f0) ≥ ((rd_T97 l0_4 x3_2).f0) then (some false) else (spec_PlanOk.l0 k2 (wrap64 (x3_2 + 1)) a0_0 a0_1 a0_2 l0_3 l0_4 a0_5 a0_6)) else (none)) else (none)) else (spec_PlanOk.l0 k2 (wrap64 (x3_2 + 1)) a0_0 a0_1 a0_2 l0_3 l0_4 a0_5 a0_6)) else (some false)) = some r := H
          have A30 := Aside0.mk A300
          clear A300
          by_cases c31 : t184 = true
          ·subst c31
           have H1 : (if x3_2 > 0 then (if 0 ≤ (wrap64 (x3_2 - 1)) then (if (wrap64 (x3_2 - 1)) < (l0_4.length : Int) then (if ((rd_T97 l0_4 (wrap64 (x3_2 - 1))).f0) ≥ ((rd_T97 l0_4 x3_2).f0) then (some false) else (spec_PlanOk.l0 k2 (wrap64 (x3_2 + 1)) a0_0 a0_1 a0_2 l0_3 l0_4 a0_5 a0_6)) else (none)) else (none)) else (spec_PlanOk.l0 k2 (wrap64 (x3_2 + 1)) a0_0 a0_1 a0_2 l0_3 l0_4 a0_5 a0_6)) = some r := by rw [if_pos rfl] at H; exact H
           clear H
           have H := H1
           clear H1
           by_cases c32 : x3_2 > 0
           ·rw [if_pos c32] at H
            have c32b0 : decide (0 < x3_2) = true := decide_eq_true c32
            clear c32
            obtain ⟨ji33, hji33⟩ : ∃ j_ : Int, (wrap64 (x3_2 - 1)) = j_ := ⟨_, rfl⟩
            replace H : (if 0 ≤ (ji33) then (if (ji33) < (l0_4.length : Int) then (if ((rd_T97 l0_4 (ji33)).f0) ≥ ((rd_T97 l0_4 x3_2).f0) then (some false) else (spec_PlanOk.l0 k2 (wrap64 (x3_2 + 1)) a0_0 a0_1 a0_2 l0_3 l0_4 a0_5 a0_6)) else (none)) else (none)) = some r := by first | (rw [hji33] at H; exact H) | (simp only [hji33] at H ⊢; exact H)
            (try rw [hji33] at A26)
            (try rw [hji33] at A28)
            (try rw [hji33] at A30)
            have hji33w : (IntKind.i64.wrap (x3_2 - 1)) = ji33 := (i64_w _).trans hji33
            by_cases c34 : 0 ≤ (ji33)
            ·rw [if_pos c34] at H
             have c34b0 : decide (0 ≤ (ji33)) = true := decide_eq_true c34
             clear c34
             by_cases c35 : (ji33) < (l0_4.length : Int)
             ·rw [if_pos c35] at H
              have c35b0 : decide ((ji33) < (l0_4.length : Int)) = true := decide_eq_true c35
              clear c35
              by_cases c36 : ((rd_T97 l0_4 (ji33)).f0) ≥ ((rd_T97 l0_4 x3_2).f0)
              ·rw [if_pos c36] at H
               have c36b0 : decide (((rd_T97 l0_4 x3_2).f0) ≤ ((rd_T97 l0_4 (ji33)).f0)) = true := decide_eq_true c36
               clear c36
               obtain rfl := Option.some.inj H
               have hcz37_0 : wr.cell? ⟨gb173, 0, none⟩ = some (.int .i64 a0_0) := cl BK173.out 0 rfl
               have hcz37_1 : wr.cell? ⟨gb173, 1, none⟩ = some (.int .i64 a0_1) := cl BK173.out 1 rfl
               have hcz37_2 : wr.cell? ⟨gb173, 2, none⟩ = some (.int .i64 a0_2) := cl BK173.out 2 rfl
               have hcz37_3 : wr.cell? ⟨gb173, 3, none⟩ = some (.slice A0_3 l0_3.length c0_3) := cl BK173.out 3 rfl
               have hcz37_4 : wr.cell? ⟨gb173, 4, none⟩ = some (.slice A0_4 l0_4.length c0_4) := cl BK173.out 4 rfl
               have hcz37_5 : wr.cell? ⟨gb173, 5, none⟩ = some (.int .i64 a0_5) := cl BK173.out 5 rfl
               have hcz37_6 : wr.cell? ⟨gb173, 6, none⟩ = some (.int .i64 a0_6) := cl BK173.out 6 rfl
               have hfz37_0 := fz BK173.out 0
               have hfz37_1 := fz BK173.out 1
               have hfz37_2 := fz BK173.out 2
               have hfz37_3 := fz BK173.out 3
               have hfz37_4 := fz BK173.out 4
               have hfz37_5 := fz BK173.out 5
               have hfz37_6 := fz BK173.out 6
               have p180 : 0 ≤ (x3_2 : Int) := of_decide_eq_true (by first | (with_reducible assumption) | assumption)
               have q180 : x3_2 < (l0_4.length : Int) := of_decide_eq_true (by first | (with_reducible assumption) | assumption)
               obtain ⟨ad180, e180, hx180_0, hx180_1, hx180_2⟩ := at_T97 HR0_4.out x3_2 p180 q180
               cases e180
               replace hx180_0 := tc HB.out hx180_0
               replace hx180_1 := tc HB.out hx180_1
               replace hx180_2 := tc HB.out hx180_2
               replace p180 := eq_true p180
               replace q180 := eq_true q180
               try go_wp2_with (first | ((with_reducible refine gate_dst (N := 4) rfl ?_); (try (refine gate_guard (by rfl) ?_; dsimp only)); refine box_event ?hg (N := 4) ?hd (cs := #[.int .i64 0, .int .i64 0, .int .i64 0]) (t := 97) ?hr ?_; (case hd => rfl); (case hg => rfl); (case hr => first | (go_simp; done) | (go_simp; rfl)); intro gb181 hg w38 hbox hb; have n0_ := Aside0.mk (blk_below (g := gb173) (o := .cells #[.int .i64 a0_0, .int .i64 a0_1, .int .i64 a0_2, .slice A0_3 l0_3.length c0_3, .slice (some ad180) l0_4.length c0_4, .int .i64 a0_5, .int .i64 a0_6] 44 (0, 0)) (by (with_reducible repeat (first | refine blk_drewN ?_ _ | refine blk_drew ?_ | refine blk_alloc ?_ _)); exact BK173.out) hb); have n1_ := Aside0.mk (below_step (by repeat (first | (with_reducible first | exact HB.out | apply ba | apply bn | apply bd | refine bt ?_ GE173.out) | exact HB.out)) hb); have n2_ := Aside0.mk (hbox); have n3_ := Aside0.mk ((by rw [hg]; exact (below_size (by repeat (first | (with_reducible first | exact HB.out | apply ba | apply bn | apply bd | refine bt ?_ GE173.out) | exact HB.out))) : w.heap.size ≤ gb181)); have n4_ := Aside0.mk ((by rw [hg]; exact (below_size (by repeat (first | (with_reducible first | exact HB.out | apply ba | apply bn | apply bd | refine bt ?_ GE173.out) | exact HB.out))) : w.heap.size ≤ gb181)); have n5_ := Aside0.mk ((by rw [hg]; exact Nat.ne_of_lt (blk_lt (g := gb173) (o := .cells #[.int .i64 a0_0, .int .i64 a0_1, .int .i64 a0_2, .slice A0_3 l0_3.length c0_3, .slice (some ad180) l0_4.length c0_4, .int .i64 a0_5, .int .i64 a0_6] 44 (0, 0)) (by (with_reducible repeat (first | refine blk_drewN ?_ _ | refine blk_drew ?_ | refine blk_alloc ?_ _)); exact BK173.out)) : gb173 ≠ gb181)); have n6_ := Aside0.mk ((by rw [hg]; exact Nat.ne_of_gt (blk_lt (g := gb173) (o := .cells #[.int .i64 a0_0, .int .i64 a0_1, .int .i64 a0_2, .slice A0_3 l0_3.length c0_3, .slice (some ad180) l0_4.length c0_4, .int .i64 a0_5, .int .i64 a0_6] 44 (0, 0)) (by (with_reducible repeat (first | refine blk_drewN ?_ _ | refine blk_drew ?_ | refine blk_alloc ?_ _)); exact BK173.out)) : gb181 ≠ gb173)); clear BK173; clear HB; have BK173 := n0_; have HB := n1_; have BK181 := n2_; have GW181 := n3_; have GE181 := n4_; have NB173_181 := n5_; have NB181_173 := n6_; clear n0_ n1_ n2_ n3_ n4_ n5_ n6_; clear hb hbox hg; have hnb39 := NB181_173.out; have hnc39 := NB173_181.out; have hcz40_0 : w38.cell? ⟨gb181, 0, none⟩ = some (.int .i64 0) := cl BK181.out 0 rfl; have hcz40_1 : w38.cell? ⟨gb181, 1, none⟩ = some (.int .i64 0) := cl BK181.out 1 rfl; have hcz40_2 : w38.cell? ⟨gb181, 2, none⟩ = some (.int .i64 0) := cl BK181.out 2 rfl; have hfz40_0 := fz BK181.out 0; have hfz40_1 := fz BK181.out 1; have hfz40_2 := fz BK181.out 2))
               have n0_ : Aside0 ((((w38.setCell ⟨gb181, 0, none⟩ (.int .i64 ((rd_T97 l0_4 x3_2).f0))).setCell ⟨gb181, 1, none⟩ (.int .i64 ((rd_T97 l0_4 x3_2).f1))).setCell ⟨gb181, 2, none⟩ (.int .i64 ((rd_T97 l0_4 x3_2).f2))).heap[gb173]? = some (.cells #[.int .i64 a0_0, .int .i64 a0_1, .int .i64 a0_2, .slice A0_3 l0_3.length c0_3, .slice (some ad180) l0_4.length c0_4, .int .i64 a0_5, .int .i64 a0_6] 44 (0, 0))) := ⟨by (with_reducible repeat (first | refine blk_drewN ?_ _ | refine blk_drew ?_ | refine blk_alloc ?_ _)); refine blk_far ?_ NB173_181.out _; (with_reducible repeat (first | refine blk_drewN ?_ _ | refine blk_drew ?_ | refine blk_alloc ?_ _)); refine blk_far ?_ NB173_181.out _; (with_reducible repeat (first | refine blk_drewN ?_ _ | refine blk_drew ?_ | refine blk_alloc ?_ _)); refine blk_far ?_ NB173_181.out _; (with_reducible repeat (first | refine blk_drewN ?_ _ | refine blk_drew ?_ | refine blk_alloc ?_ _)); exact BK173.out⟩
               have n1_ : Aside0 ((((w38.setCell ⟨gb181, 0, none⟩ (.int .i64 ((rd_T97 l0_4 x3_2).f0))).setCell ⟨gb181, 1, none⟩ (.int .i64 ((rd_T97 l0_4 x3_2).f1))).setCell ⟨gb181, 2, none⟩ (.int .i64 ((rd_T97 l0_4 x3_2).f2))).heap[gb181]? = some (.cells #[.int .i64 ((rd_T97 l0_4 x3_2).f0), .int .i64 ((rd_T97 l0_4 x3_2).f1), .int .i64 ((rd_T97 l0_4 x3_2).f2)] 97 (0, 0))) := ⟨by (with_reducible repeat (first | refine blk_drewN ?_ _ | refine blk_drew ?_ | refine blk_alloc ?_ _)); refine blk_put (cs := #[.int .i64 ((rd_T97 l0_4 x3_2).f0), .int .i64 ((rd_T97 l0_4 x3_2).f1), .int .i64 0]) ?_ 2 _ rfl; (with_reducible repeat (first | refine blk_drewN ?_ _ | refine blk_drew ?_ | refine blk_alloc ?_ _)); refine blk_put (cs := #[.int .i64 ((rd_T97 l0_4 x3_2).f0), .int .i64 0, .int .i64 0]) ?_ 1 _ rfl; (with_reducible repeat (first | refine blk_drewN ?_ _ | refine blk_drew ?_ | refine blk_alloc ?_ _)); refine blk_put (cs := #[.int .i64 0, .int .i64 0, .int .i64 0]) ?_ 0 _ rfl; (with_reducible repeat (first | refine blk_drewN ?_ _ | refine blk_drew ?_ | refine blk_alloc ?_ _)); exact BK181.out⟩
               have n2_ : Aside0 (Below w.heap.size w (((w38.setCell ⟨gb181, 0, none⟩ (.int .i64 ((rd_T97 l0_4 x3_2).f0))).setCell ⟨gb181, 1, none⟩ (.int .i64 ((rd_T97 l0_4 x3_2).f1))).setCell ⟨gb181, 2, none⟩ (.int .i64 ((rd_T97 l0_4 x3_2).f2)))) := ⟨by repeat (first | (with_reducible first | exact HB.out | apply ba | apply bn | apply bd | refine bt ?_ GE173.out | refine bt ?_ GE181.out) | exact HB.out)⟩
               (try clear BK173)
               (try clear BK181)
               (try clear HB)
               generalize (((w38.setCell ⟨gb181, 0, none⟩ (.int .i64 ((rd_T97 l0_4 x3_2).f0))).setCell ⟨gb181, 1, none⟩ (.int .i64 ((rd_T97 l0_4 x3_2).f1))).setCell ⟨gb181, 2, none⟩ (.int .i64 ((rd_T97 l0_4 x3_2).f2))) = w41 at n0_ n1_ n2_ ⊢
               have BK173 := n0_
               have BK181 := n1_
               have HB := n2_
               clear n0_ n1_ n2_
               have n0_ := Aside0.mk (blk_drew BK173.out)
               have n1_ := Aside0.mk (blk_drew BK181.out)
               have n2_ := Aside0.mk (below_drew1 HB.out)
               clear BK173
               clear BK181
               clear HB
               have BK173 := n0_
               have BK181 := n1_
               have HB := n2_
               clear n0_ n1_ n2_
               have p185 : 0 ≤ ((ji33) : Int) := of_decide_eq_true (by first | (with_reducible assumption) | assumption)
               have q185 : (ji33) < (l0_4.length : Int) := of_decide_eq_true (by first | (with_reducible assumption) | assumption)
               obtain ⟨ad185, e185, hx185_0, hx185_1, hx185_2⟩ := at_T97 HR0_4.out (ji33) p185 q185
               have hw185_2 := hx185_2
               have hw185_1 := hx185_1
               have hw185_0 := hx185_0
               obtain rfl : ad180 = ad185 := (by injection e185)
               replace hx185_0 := tc HB.out hx185_0
               replace hx185_1 := tc HB.out hx185_1
               replace hx185_2 := tc HB.out hx185_2
               replace p185 := eq_true p185
               replace q185 := eq_true q185
               refine start_ (n := 32) (S := fun w' => w'.cell? ⟨gb181, 0, none⟩ = some (.int .i64 ((rd_T97 l0_4 x3_2).f0)) ∧ w'.cell? ⟨gb181, 1, none⟩ = some (.int .i64 ((rd_T97 l0_4 x3_2).f1)) ∧ w'.cell? ⟨gb181, 2, none⟩ = some (.int .i64 ((rd_T97 l0_4 x3_2).f2)) ∧ w'.cell? ⟨gb173, 0, none⟩ = some (.int .i64 a0_0) ∧ w'.cell? ⟨gb173, 1, none⟩ = some (.int .i64 a0_1) ∧ w'.cell? ⟨gb173, 2, none⟩ = some (.int .i64 a0_2) ∧ w'.cell? ⟨gb173, 3, none⟩ = some (.slice A0_3 l0_3.length c0_3) ∧ w'.cell? ⟨gb173, 4, none⟩ = some (.slice (some ad180) l0_4.length c0_4) ∧ w'.cell? ⟨gb173, 5, none⟩ = some (.int .i64 a0_5) ∧ w'.cell? ⟨gb173, 6, none⟩ = some (.int .i64 a0_6) ∧ w'.cell? (ad180.add (((ji33)).toNat * 3)) = some (.int .i64 ((rd_T97 l0_4 (ji33)).f0)) ∧ w'.cell? ⟨(ad180.add (((ji33)).toNat * 3)).block, (ad180.add (((ji33)).toNat * 3)).off + 1, none⟩ = some (.int .i64 ((rd_T97 l0_4 (ji33)).f1)) ∧ w'.cell? ⟨(ad180.add (((ji33)).toNat * 3)).block, (ad180.add (((ji33)).toNat * 3)).off + 2, none⟩ = some (.int .i64 ((rd_T97 l0_4 (ji33)).f2))) (ds := []) #[false, false, false, false, false, false, false, false, false, false, false, false, false, false, false, false, false, false, false, false, false, false, false, false, false, false, false, false, false, false, false, false] (by kernel_rfl) rfl rfl ⟨cl BK181.out 0 rfl, cl BK181.out 1 rfl, cl BK181.out 2 rfl, cl BK173.out 0 rfl, cl BK173.out 1 rfl, cl BK173.out 2 rfl, cl BK173.out 3 rfl, cl BK173.out 4 rfl, cl BK173.out 5 rfl, cl BK173.out 6 rfl, (tc HB.out hw185_0 :), (tc HB.out hw185_1 :), (tc HB.out hw185_2 :)⟩ (fun hHeld => ?_); refine with_tabW spec_PlanOk.tab7 spec_PlanOk.bits7 (fun HT_ HW_ => ?_)
               generalize w41.drew = w42 at BK173 BK181 HB hx185_0 hx185_1 hx185_2 hHeld ⊢
               refine pa_ 0 (some 47) (any_of HT_.out (by kernel_rfl)) ?_
               refine take_ (i := 1) (N := some 48) (v := ?_) (a' := ?_) #[true, true, false, false, false, false, false, false, false, false, false, false, false, false, false, false, false, false, false, false, false, false, false, false, false, false, false, false, false, false, false, false] rfl rfl (take_ofW HT_.out HW_.out (by kernel_rfl)) (fun _ _ _ h => h) (Or.inl ⟨by rfl, ?_⟩) hHeld ?_ ?_
               rotate_left
               ·rintro w' ⟨s0, s1, s2, s3, s4, s5, s6, s7, s8, s9, s10, s11, s12⟩
                go_simp
                with_reducible rfl
               rotate_left
               ·simp only [Act.put, List.setIfInBounds_toArray, List.set_cons_zero, List.set_cons_succ, i64_w, i32_w]
                rfl
               refine one_ (i := 2) (N := some 49) #[true, true, true, false, false, false, false, false, false, false, false, false, false, false, false, false, false, false, false, false, false, false, false, false, false, false, false, false, false, false, false, false] rfl rfl (one_of HT_.out (by kernel_rfl)) (by decide) (fun K hK => ?_)
               refine goes_ Try.func49 (by kernel_rfl) rfl #[.int .i64 ((rd_T97 l0_4 x3_2).f0), .int .i64 0, .int .i64 3] (by rfl) rfl rfl (by (try simp only [List.map_toArray, List.map_cons, List.map_nil]); first | done | rfl | (simp only [List.length_drop, List.length_take]; rfl)) ?_
               with_reducible refine (spec_l6In.calls ((rd_T97 l0_4 x3_2).f0) 0 3 true _ A26.out).mono ?_
               rintro e w' ⟨rfl, ⟨nd, rfl⟩⟩
               refine ⟨_, rfl, ?_⟩
               refine hK.out _ _ ⟨cl BK181.out 0 rfl, cl BK181.out 1 rfl, cl BK181.out 2 rfl, cl BK173.out 0 rfl, cl BK173.out 1 rfl, cl BK173.out 2 rfl, cl BK173.out 3 rfl, cl BK173.out 4 rfl, cl BK173.out 5 rfl, cl BK173.out 6 rfl, (tc HB.out hw185_0 :), (tc HB.out hw185_1 :), (tc HB.out hw185_2 :)⟩ (fun hHeld => ?_)
               clear hK K
               refine norm_ (a' := ?_) ?_ ?_
               rotate_left
               ·show Act.put _ (some 49) _ = _
                simp only [Act.put, List.setIfInBounds_toArray, List.set_cons_zero, List.set_cons_succ, i64_w, i32_w]
                rfl
               refine pa_ 3 (some 50) (any_of HT_.out (by kernel_rfl)) ?_
               refine pa_ 4 (some 51) (any_of HT_.out (by kernel_rfl)) ?_
               refine pa_ 5 (some 52) (any_of HT_.out (by kernel_rfl)) ?_
               refine take_ (i := 6) (N := some 53) (v := ?_) (a' := ?_) #[true, true, true, true, true, true, true, false, false, false, false, false, false, false, false, false, false, false, false, false, false, false, false, false, false, false, false, false, false, false, false, false] rfl rfl (take_ofW HT_.out HW_.out (by kernel_rfl)) (fun _ _ _ h => h) (Or.inl ⟨by rfl, ?_⟩) hHeld ?_ ?_
               rotate_left
               ·rintro w' ⟨s0, s1, s2, s3, s4, s5, s6, s7, s8, s9, s10, s11, s12⟩
                go_simp
                with_reducible rfl
               rotate_left
               ·simp only [Act.put, List.setIfInBounds_toArray, List.set_cons_zero, List.set_cons_succ, i64_w, i32_w]
                rfl
               refine one_ (i := 7) (N := some 54) #[true, true, true, true, true, true, true, true, false, false, false, false, false, false, false, false, false, false, false, false, false, false, false, false, false, false, false, false, false, false, false, false] rfl rfl (one_of HT_.out (by kernel_rfl)) (by decide) (fun K hK => ?_)
               refine goes_ Try.func49 (by kernel_rfl) rfl #[.int .i64 ((rd_T97 l0_4 x3_2).f1), .int .i64 1, .int .i64 9999] (by rfl) rfl rfl (by (try simp only [List.map_toArray, List.map_cons, List.map_nil]); first | done | rfl | (simp only [List.length_drop, List.length_take]; rfl)) ?_
               with_reducible refine (spec_l6In.calls ((rd_T97 l0_4 x3_2).f1) 1 9999 true _ A28.out).mono ?_
               rintro e w' ⟨rfl, ⟨nd, rfl⟩⟩
               refine ⟨_, rfl, ?_⟩
               refine hK.out _ _ ⟨cl BK181.out 0 rfl, cl BK181.out 1 rfl, cl BK181.out 2 rfl, cl BK173.out 0 rfl, cl BK173.out 1 rfl, cl BK173.out 2 rfl, cl BK173.out 3 rfl, cl BK173.out 4 rfl, cl BK173.out 5 rfl, cl BK173.out 6 rfl, (tc HB.out hw185_0 :), (tc HB.out hw185_1 :), (tc HB.out hw185_2 :)⟩ (fun hHeld => ?_)
               clear hK K
               refine norm_ (a' := ?_) ?_ ?_
               rotate_left
               ·show Act.put _ (some 54) _ = _
                simp only [Act.put, List.setIfInBounds_toArray, List.set_cons_zero, List.set_cons_succ, i64_w, i32_w]
                rfl
               refine pa_ 8 (some 55) (any_of HT_.out (by kernel_rfl)) ?_
               refine pa_ 9 (some 56) (any_of HT_.out (by kernel_rfl)) ?_
               refine pa_ 10 (some 57) (any_of HT_.out (by kernel_rfl)) ?_
               refine pa_ 11 (some 58) (any_of HT_.out (by kernel_rfl)) ?_
               refine take_ (i := 12) (N := some 59) (v := ?_) (a' := ?_) #[true, true, true, true, true, true, true, true, true, true, true, true, true, false, false, false, false, false, false, false, false, false, false, false, false, false, false, false, false, false, false, false] rfl rfl (take_ofW HT_.out HW_.out (by kernel_rfl)) (fun _ _ _ h => h) (Or.inl ⟨by rfl, ?_⟩) hHeld ?_ ?_
               rotate_left
               ·rintro w' ⟨s0, s1, s2, s3, s4, s5, s6, s7, s8, s9, s10, s11, s12⟩
                go_simp
                with_reducible rfl
               rotate_left
               ·simp only [Act.put, List.setIfInBounds_toArray, List.set_cons_zero, List.set_cons_succ, i64_w, i32_w]
                rfl
               refine one_ (i := 13) (N := some 60) #[true, true, true, true, true, true, true, true, true, true, true, true, true, true, false, false, false, false, false, false, false, false, false, false, false, false, false, false, false, false, false, false] rfl rfl (one_of HT_.out (by kernel_rfl)) (by decide) (fun K hK => ?_)
               refine goes_ Try.func49 (by kernel_rfl) rfl #[.int .i64 ((rd_T97 l0_4 x3_2).f2), .int .i64 (-1), .int .i64 10] (by rfl) rfl rfl (by (try simp only [List.map_toArray, List.map_cons, List.map_nil]); first | done | rfl | (simp only [List.length_drop, List.length_take]; rfl)) ?_
               with_reducible refine (spec_l6In.calls ((rd_T97 l0_4 x3_2).f2) (-1) 10 true _ A30.out).mono ?_
               rintro e w' ⟨rfl, ⟨nd, rfl⟩⟩
               refine ⟨_, rfl, ?_⟩
               refine hK.out _ _ ⟨cl BK181.out 0 rfl, cl BK181.out 1 rfl, cl BK181.out 2 rfl, cl BK173.out 0 rfl, cl BK173.out 1 rfl, cl BK173.out 2 rfl, cl BK173.out 3 rfl, cl BK173.out 4 rfl, cl BK173.out 5 rfl, cl BK173.out 6 rfl, (tc HB.out hw185_0 :), (tc HB.out hw185_1 :), (tc HB.out hw185_2 :)⟩ (fun hHeld => ?_)
               clear hK K
               refine norm_ (a' := ?_) ?_ ?_
               rotate_left
               ·show Act.put _ (some 60) _ = _
                simp only [Act.put, List.setIfInBounds_toArray, List.set_cons_zero, List.set_cons_succ, i64_w, i32_w]
                rfl
               refine pa_ 14 (some 61) (any_of HT_.out (by kernel_rfl)) ?_
               refine pa_ 15 (some 62) (any_of HT_.out (by kernel_rfl)) ?_
               refine pa_ 16 (some 63) (any_of HT_.out (by kernel_rfl)) ?_
               refine pa_ 17 (some 64) (any_of HT_.out (by kernel_rfl)) ?_
               refine pa_ 18 (some 65) (any_of HT_.out (by kernel_rfl)) ?_
               refine pa_ 19 (some 66) (any_of HT_.out (by kernel_rfl)) ?_
               refine pa_ 20 (some 67) (any_of HT_.out (by kernel_rfl)) ?_
               refine pa_ 22 (some 69) (any_of HT_.out (by kernel_rfl)) ?_
               refine pa_ 23 (some 70) (any_of HT_.out (by kernel_rfl)) ?_
               refine pa_ 27 (some 74) (any_of HT_.out (by kernel_rfl)) ?_
               refine take_ (i := 21) (N := some 68) (v := ?_) (a' := ?_) #[true, true, true, true, true, true, true, true, true, true, true, true, true, true, true, true, true, true, true, true, true, true, true, true, false, false, false, true, false, false, false, false] rfl rfl (take_ofW HT_.out HW_.out (by kernel_rfl)) (fun _ _ _ h => h) (Or.inl ⟨by rfl, ?_⟩) hHeld ?_ ?_
               rotate_left
               ·rintro w' ⟨s0, s1, s2, s3, s4, s5, s6, s7, s8, s9, s10, s11, s12⟩
                go_simp
                with_reducible rfl
               rotate_left
               ·simp only [Act.put, List.setIfInBounds_toArray, List.set_cons_zero, List.set_cons_succ, i64_w, i32_w]
                rfl
               refine pa_ 24 (some 71) (any_of HT_.out (by kernel_rfl)) ?_
               refine pa_ 25 (some 72) (any_of HT_.out (by kernel_rfl)) ?_
               refine take_ (i := 26) (N := some 73) (v := ?_) (a' := ?_) #[true, true, true, true, true, true, true, true, true, true, true, true, true, true, true, true, true, true, true, true, true, true, true, true, true, true, true, true, false, false, false, false] rfl rfl (take_ofW HT_.out HW_.out (by kernel_rfl)) (fun _ _ _ h => h) (Or.inl ⟨by rfl, ?_⟩) hHeld ?_ ?_
               rotate_left
               ·rintro w' ⟨s0, s1, s2, s3, s4, s5, s6, s7, s8, s9, s10, s11, s12⟩
                go_simp
                with_reducible rfl
               rotate_left
               ·simp only [Act.put, List.setIfInBounds_toArray, List.set_cons_zero, List.set_cons_succ, i64_w, i32_w]
                rfl
               refine take_ (i := 28) (N := some 75) (v := ?_) (a' := ?_) #[true, true, true, true, true, true, true, true, true, true, true, true, true, true, true, true, true, true, true, true, true, true, true, true, true, true, true, true, true, false, false, false] rfl rfl (take_ofW HT_.out HW_.out (by kernel_rfl)) (fun _ _ _ h => h) (Or.inl ⟨by rfl, ?_⟩) hHeld ?_ ?_
               rotate_left
               ·rintro w' ⟨s0, s1, s2, s3, s4, s5, s6, s7, s8, s9, s10, s11, s12⟩
                go_simp
                with_reducible rfl
               rotate_left
               ·simp only [Act.put, List.setIfInBounds_toArray, List.set_cons_zero, List.set_cons_succ, i64_w, i32_w]
                rfl
               refine pa_ 29 (some 76) (any_of HT_.out (by kernel_rfl)) ?_
               refine pa_ 30 (some 77) (any_of HT_.out (by kernel_rfl)) ?_
               refine pa_ 31 (some 78) (any_of HT_.out (by kernel_rfl)) ?_
               refine done_ (done_of HT_.out (by kernel_rfl)) ?_
               try go_wp2
               go_ret
               exact ⟨by first | rfl | (simp [errW_none, errW_some] <;> rfl) | (simp only [← hji33]; first | rfl | (simp [errW_none, errW_some] <;> rfl)) | (simp [*, errW_none, errW_some] <;> rfl), by repeat (first | (with_reducible first | exact HB.out | apply ba | apply bn | apply bd | refine bt ?_ GE173.out | refine bt ?_ GE181.out) | exact HB.out)⟩
              ·rw [if_neg c36] at H
               have c36b0 : decide (((rd_T97 l0_4 x3_2).f0) ≤ ((rd_T97 l0_4 (ji33)).f0)) = false := decide_eq_false c36
               clear c36
               have H' := Aside0.mk H
               clear H
               have hcz43_0 : wr.cell? ⟨gb173, 0, none⟩ = some (.int .i64 a0_0) := cl BK173.out 0 rfl
               have hcz43_1 : wr.cell? ⟨gb173, 1, none⟩ = some (.int .i64 a0_1) := cl BK173.out 1 rfl
               have hcz43_2 : wr.cell? ⟨gb173, 2, none⟩ = some (.int .i64 a0_2) := cl BK173.out 2 rfl
               have hcz43_3 : wr.cell? ⟨gb173, 3, none⟩ = some (.slice A0_3 l0_3.length c0_3) := cl BK173.out 3 rfl
               have hcz43_4 : wr.cell? ⟨gb173, 4, none⟩ = some (.slice A0_4 l0_4.length c0_4) := cl BK173.out 4 rfl
               have hcz43_5 : wr.cell? ⟨gb173, 5, none⟩ = some (.int .i64 a0_5) := cl BK173.out 5 rfl
               have hcz43_6 : wr.cell? ⟨gb173, 6, none⟩ = some (.int .i64 a0_6) := cl BK173.out 6 rfl
               have hfz43_0 := fz BK173.out 0
               have hfz43_1 := fz BK173.out 1
               have hfz43_2 := fz BK173.out 2
               have hfz43_3 := fz BK173.out 3
               have hfz43_4 := fz BK173.out 4
               have hfz43_5 := fz BK173.out 5
               have hfz43_6 := fz BK173.out 6
               have p180 : 0 ≤ (x3_2 : Int) := of_decide_eq_true (by first | (with_reducible assumption) | assumption)
               have q180 : x3_2 < (l0_4.length : Int) := of_decide_eq_true (by first | (with_reducible assumption) | assumption)
               obtain ⟨ad180, e180, hx180_0, hx180_1, hx180_2⟩ := at_T97 HR0_4.out x3_2 p180 q180
               cases e180
               replace hx180_0 := tc HB.out hx180_0
               replace hx180_1 := tc HB.out hx180_1
               replace hx180_2 := tc HB.out hx180_2
               replace p180 := eq_true p180
               replace q180 := eq_true q180
               try go_wp2_with (first | ((with_reducible refine gate_dst (N := 4) rfl ?_); (try (refine gate_guard (by rfl) ?_; dsimp only)); refine box_event ?hg (N := 4) ?hd (cs := #[.int .i64 0, .int .i64 0, .int .i64 0]) (t := 97) ?hr ?_; (case hd => rfl); (case hg => rfl); (case hr => first | (go_simp; done) | (go_simp; rfl)); intro gb181 hg w44 hbox hb; have n0_ := Aside0.mk (blk_below (g := gb173) (o := .cells #[.int .i64 a0_0, .int .i64 a0_1, .int .i64 a0_2, .slice A0_3 l0_3.length c0_3, .slice (some ad180) l0_4.length c0_4, .int .i64 a0_5, .int .i64 a0_6] 44 (0, 0)) (by (with_reducible repeat (first | refine blk_drewN ?_ _ | refine blk_drew ?_ | refine blk_alloc ?_ _)); exact BK173.out) hb); have n1_ := Aside0.mk (below_step (by repeat (first | (with_reducible first | exact HB.out | apply ba | apply bn | apply bd | refine bt ?_ GE173.out) | exact HB.out)) hb); have n2_ := Aside0.mk (hbox); have n3_ := Aside0.mk ((by rw [hg]; exact (below_size (by repeat (first | (with_reducible first | exact HB.out | apply ba | apply bn | apply bd | refine bt ?_ GE173.out) | exact HB.out))) : w.heap.size ≤ gb181)); have n4_ := Aside0.mk ((by rw [hg]; exact (below_size (by repeat (first | (with_reducible first | exact HB.out | apply ba | apply bn | apply bd | refine bt ?_ GE173.out) | exact HB.out))) : w.heap.size ≤ gb181)); have n5_ := Aside0.mk ((by rw [hg]; exact Nat.ne_of_lt (blk_lt (g := gb173) (o := .cells #[.int .i64 a0_0, .int .i64 a0_1, .int .i64 a0_2, .slice A0_3 l0_3.length c0_3, .slice (some ad180) l0_4.length c0_4, .int .i64 a0_5, .int .i64 a0_6] 44 (0, 0)) (by (with_reducible repeat (first | refine blk_drewN ?_ _ | refine blk_drew ?_ | refine blk_alloc ?_ _)); exact BK173.out)) : gb173 ≠ gb181)); have n6_ := Aside0.mk ((by rw [hg]; exact Nat.ne_of_gt (blk_lt (g := gb173) (o := .cells #[.int .i64 a0_0, .int .i64 a0_1, .int .i64 a0_2, .slice A0_3 l0_3.length c0_3, .slice (some ad180) l0_4.length c0_4, .int .i64 a0_5, .int .i64 a0_6] 44 (0, 0)) (by (with_reducible repeat (first | refine blk_drewN ?_ _ | refine blk_drew ?_ | refine blk_alloc ?_ _)); exact BK173.out)) : gb181 ≠ gb173)); clear BK173; clear HB; have BK173 := n0_; have HB := n1_; have BK181 := n2_; have GW181 := n3_; have GE181 := n4_; have NB173_181 := n5_; have NB181_173 := n6_; clear n0_ n1_ n2_ n3_ n4_ n5_ n6_; clear hb hbox hg; have hnb45 := NB181_173.out; have hnc45 := NB173_181.out; have hcz46_0 : w44.cell? ⟨gb181, 0, none⟩ = some (.int .i64 0) := cl BK181.out 0 rfl; have hcz46_1 : w44.cell? ⟨gb181, 1, none⟩ = some (.int .i64 0) := cl BK181.out 1 rfl; have hcz46_2 : w44.cell? ⟨gb181, 2, none⟩ = some (.int .i64 0) := cl BK181.out 2 rfl; have hfz46_0 := fz BK181.out 0; have hfz46_1 := fz BK181.out 1; have hfz46_2 := fz BK181.out 2))
               have n0_ : Aside0 ((((w44.setCell ⟨gb181, 0, none⟩ (.int .i64 ((rd_T97 l0_4 x3_2).f0))).setCell ⟨gb181, 1, none⟩ (.int .i64 ((rd_T97 l0_4 x3_2).f1))).setCell ⟨gb181, 2, none⟩ (.int .i64 ((rd_T97 l0_4 x3_2).f2))).heap[gb173]? = some (.cells #[.int .i64 a0_0, .int .i64 a0_1, .int .i64 a0_2, .slice A0_3 l0_3.length c0_3, .slice (some ad180) l0_4.length c0_4, .int .i64 a0_5, .int .i64 a0_6] 44 (0, 0))) := ⟨by (with_reducible repeat (first | refine blk_drewN ?_ _ | refine blk_drew ?_ | refine blk_alloc ?_ _)); refine blk_far ?_ NB173_181.out _; (with_reducible repeat (first | refine blk_drewN ?_ _ | refine blk_drew ?_ | refine blk_alloc ?_ _)); refine blk_far ?_ NB173_181.out _; (with_reducible repeat (first | refine blk_drewN ?_ _ | refine blk_drew ?_ | refine blk_alloc ?_ _)); refine blk_far ?_ NB173_181.out _; (with_reducible repeat (first | refine blk_drewN ?_ _ | refine blk_drew ?_ | refine blk_alloc ?_ _)); exact BK173.out⟩
               have n1_ : Aside0 ((((w44.setCell ⟨gb181, 0, none⟩ (.int .i64 ((rd_T97 l0_4 x3_2).f0))).setCell ⟨gb181, 1, none⟩ (.int .i64 ((rd_T97 l0_4 x3_2).f1))).setCell ⟨gb181, 2, none⟩ (.int .i64 ((rd_T97 l0_4 x3_2).f2))).heap[gb181]? = some (.cells #[.int .i64 ((rd_T97 l0_4 x3_2).f0), .int .i64 ((rd_T97 l0_4 x3_2).f1), .int .i64 ((rd_T97 l0_4 x3_2).f2)] 97 (0, 0))) := ⟨by (with_reducible repeat (first | refine blk_drewN ?_ _ | refine blk_drew ?_ | refine blk_alloc ?_ _)); refine blk_put (cs := #[.int .i64 ((rd_T97 l0_4 x3_2).f0), .int .i64 ((rd_T97 l0_4 x3_2).f1), .int .i64 0]) ?_ 2 _ rfl; (with_reducible repeat (first | refine blk_drewN ?_ _ | refine blk_drew ?_ | refine blk_alloc ?_ _)); refine blk_put (cs := #[.int .i64 ((rd_T97 l0_4 x3_2).f0), .int .i64 0, .int .i64 0]) ?_ 1 _ rfl; (with_reducible repeat (first | refine blk_drewN ?_ _ | refine blk_drew ?_ | refine blk_alloc ?_ _)); refine blk_put (cs := #[.int .i64 0, .int .i64 0, .int .i64 0]) ?_ 0 _ rfl; (with_reducible repeat (first | refine blk_drewN ?_ _ | refine blk_drew ?_ | refine blk_alloc ?_ _)); exact BK181.out⟩
               have n2_ : Aside0 (Below w.heap.size w (((w44.setCell ⟨gb181, 0, none⟩ (.int .i64 ((rd_T97 l0_4 x3_2).f0))).setCell ⟨gb181, 1, none⟩ (.int .i64 ((rd_T97 l0_4 x3_2).f1))).setCell ⟨gb181, 2, none⟩ (.int .i64 ((rd_T97 l0_4 x3_2).f2)))) := ⟨by repeat (first | (with_reducible first | exact HB.out | apply ba | apply bn | apply bd | refine bt ?_ GE173.out | refine bt ?_ GE181.out) | exact HB.out)⟩
               (try clear BK173)
               (try clear BK181)
               (try clear HB)
               generalize (((w44.setCell ⟨gb181, 0, none⟩ (.int .i64 ((rd_T97 l0_4 x3_2).f0))).setCell ⟨gb181, 1, none⟩ (.int .i64 ((rd_T97 l0_4 x3_2).f1))).setCell ⟨gb181, 2, none⟩ (.int .i64 ((rd_T97 l0_4 x3_2).f2))) = w47 at n0_ n1_ n2_ ⊢
               have BK173 := n0_
               have BK181 := n1_
               have HB := n2_
               clear n0_ n1_ n2_
               have n0_ := Aside0.mk (blk_drew BK173.out)
               have n1_ := Aside0.mk (blk_drew BK181.out)
               have n2_ := Aside0.mk (below_drew1 HB.out)
               clear BK173
               clear BK181
               clear HB
               have BK173 := n0_
               have BK181 := n1_
               have HB := n2_
               clear n0_ n1_ n2_
               have p185 : 0 ≤ ((ji33) : Int) := of_decide_eq_true (by first | (with_reducible assumption) | assumption)
               have q185 : (ji33) < (l0_4.length : Int) := of_decide_eq_true (by first | (with_reducible assumption) | assumption)
               obtain ⟨ad185, e185, hx185_0, hx185_1, hx185_2⟩ := at_T97 HR0_4.out (ji33) p185 q185
               have hw185_2 := hx185_2
               have hw185_1 := hx185_1
               have hw185_0 := hx185_0
               obtain rfl : ad180 = ad185 := (by injection e185)
               replace hx185_0 := tc HB.out hx185_0
               replace hx185_1 := tc HB.out hx185_1
               replace hx185_2 := tc HB.out hx185_2
               replace p185 := eq_true p185
               replace q185 := eq_true q185
               refine start_ (n := 32) (S := fun w' => w'.cell? ⟨gb181, 0, none⟩ = some (.int .i64 ((rd_T97 l0_4 x3_2).f0)) ∧ w'.cell? ⟨gb181, 1, none⟩ = some (.int .i64 ((rd_T97 l0_4 x3_2).f1)) ∧ w'.cell? ⟨gb181, 2, none⟩ = some (.int .i64 ((rd_T97 l0_4 x3_2).f2)) ∧ w'.cell? ⟨gb173, 0, none⟩ = some (.int .i64 a0_0) ∧ w'.cell? ⟨gb173, 1, none⟩ = some (.int .i64 a0_1) ∧ w'.cell? ⟨gb173, 2, none⟩ = some (.int .i64 a0_2) ∧ w'.cell? ⟨gb173, 3, none⟩ = some (.slice A0_3 l0_3.length c0_3) ∧ w'.cell? ⟨gb173, 4, none⟩ = some (.slice (some ad180) l0_4.length c0_4) ∧ w'.cell? ⟨gb173, 5, none⟩ = some (.int .i64 a0_5) ∧ w'.cell? ⟨gb173, 6, none⟩ = some (.int .i64 a0_6) ∧ w'.cell? (ad180.add (((ji33)).toNat * 3)) = some (.int .i64 ((rd_T97 l0_4 (ji33)).f0)) ∧ w'.cell? ⟨(ad180.add (((ji33)).toNat * 3)).block, (ad180.add (((ji33)).toNat * 3)).off + 1, none⟩ = some (.int .i64 ((rd_T97 l0_4 (ji33)).f1)) ∧ w'.cell? ⟨(ad180.add (((ji33)).toNat * 3)).block, (ad180.add (((ji33)).toNat * 3)).off + 2, none⟩ = some (.int .i64 ((rd_T97 l0_4 (ji33)).f2))) (ds := []) #[false, false, false, false, false, false, false, false, false, false, false, false, false, false, false, false, false, false, false, false, false, false, false, false, false, false, false, false, false, false, false, false] (by kernel_rfl) rfl rfl ⟨cl BK181.out 0 rfl, cl BK181.out 1 rfl, cl BK181.out 2 rfl, cl BK173.out 0 rfl, cl BK173.out 1 rfl, cl BK173.out 2 rfl, cl BK173.out 3 rfl, cl BK173.out 4 rfl, cl BK173.out 5 rfl, cl BK173.out 6 rfl, (tc HB.out hw185_0 :), (tc HB.out hw185_1 :), (tc HB.out hw185_2 :)⟩ (fun hHeld => ?_); refine with_tabW spec_PlanOk.tab7 spec_PlanOk.bits7 (fun HT_ HW_ => ?_)
               generalize w47.drew = w48 at BK173 BK181 HB hx185_0 hx185_1 hx185_2 hHeld ⊢
               refine pa_ 0 (some 47) (any_of HT_.out (by kernel_rfl)) ?_
               refine take_ (i := 1) (N := some 48) (v := ?_) (a' := ?_) #[true, true, false, false, false, false, false, false, false, false, false, false, false, false, false, false, false, false, false, false, false, false, false, false, false, false, false, false, false, false, false, false] rfl rfl (take_ofW HT_.out HW_.out (by kernel_rfl)) (fun _ _ _ h => h) (Or.inl ⟨by rfl, ?_⟩) hHeld ?_ ?_
               rotate_left
               ·rintro w' ⟨s0, s1, s2, s3, s4, s5, s6, s7, s8, s9, s10, s11, s12⟩
                go_simp
                with_reducible rfl
               rotate_left
               ·simp only [Act.put, List.setIfInBounds_toArray, List.set_cons_zero, List.set_cons_succ, i64_w, i32_w]
                rfl
               refine one_ (i := 2) (N := some 49) #[true, true, true, false, false, false, false, false, false, false, false, false, false, false, false, false, false, false, false, false, false, false, false, false, false, false, false, false, false, false, false, false] rfl rfl (one_of HT_.out (by kernel_rfl)) (by decide) (fun K hK => ?_)
               refine goes_ Try.func49 (by kernel_rfl) rfl #[.int .i64 ((rd_T97 l0_4 x3_2).f0), .int .i64 0, .int .i64 3] (by rfl) rfl rfl (by (try simp only [List.map_toArray, List.map_cons, List.map_nil]); first | done | rfl | (simp only [List.length_drop, List.length_take]; rfl)) ?_
               with_reducible refine (spec_l6In.calls ((rd_T97 l0_4 x3_2).f0) 0 3 true _ A26.out).mono ?_
               rintro e w' ⟨rfl, ⟨nd, rfl⟩⟩
               refine ⟨_, rfl, ?_⟩
               refine hK.out _ _ ⟨cl BK181.out 0 rfl, cl BK181.out 1 rfl, cl BK181.out 2 rfl, cl BK173.out 0 rfl, cl BK173.out 1 rfl, cl BK173.out 2 rfl, cl BK173.out 3 rfl, cl BK173.out 4 rfl, cl BK173.out 5 rfl, cl BK173.out 6 rfl, (tc HB.out hw185_0 :), (tc HB.out hw185_1 :), (tc HB.out hw185_2 :)⟩ (fun hHeld => ?_)
               clear hK K
               refine norm_ (a' := ?_) ?_ ?_
               rotate_left
               ·show Act.put _ (some 49) _ = _
                simp only [Act.put, List.setIfInBounds_toArray, List.set_cons_zero, List.set_cons_succ, i64_w, i32_w]
                rfl
               refine pa_ 3 (some 50) (any_of HT_.out (by kernel_rfl)) ?_
               refine pa_ 4 (some 51) (any_of HT_.out (by kernel_rfl)) ?_
               refine pa_ 5 (some 52) (any_of HT_.out (by kernel_rfl)) ?_
               refine take_ (i := 6) (N := some 53) (v := ?_) (a' := ?_) #[true, true, true, true, true, true, true, false, false, false, false, false, false, false, false, false, false, false, false, false, false, false, false, false, false, false, false, false, false, false, false, false] rfl rfl (take_ofW HT_.out HW_.out (by kernel_rfl)) (fun _ _ _ h => h) (Or.inl ⟨by rfl, ?_⟩) hHeld ?_ ?_
               rotate_left
               ·rintro w' ⟨s0, s1, s2, s3, s4, s5, s6, s7, s8, s9, s10, s11, s12⟩
                go_simp
                with_reducible rfl
               rotate_left
               ·simp only [Act.put, List.setIfInBounds_toArray, List.set_cons_zero, List.set_cons_succ, i64_w, i32_w]
                rfl
               refine one_ (i := 7) (N := some 54) #[true, true, true, true, true, true, true, true, false, false, false, false, false, false, false, false, false, false, false, false, false, false, false, false, false, false, false, false, false, false, false, false] rfl rfl (one_of HT_.out (by kernel_rfl)) (by decide) (fun K hK => ?_)
               refine goes_ Try.func49 (by kernel_rfl) rfl #[.int .i64 ((rd_T97 l0_4 x3_2).f1), .int .i64 1, .int .i64 9999] (by rfl) rfl rfl (by (try simp only [List.map_toArray, List.map_cons, List.map_nil]); first | done | rfl | (simp only [List.length_drop, List.length_take]; rfl)) ?_
               with_reducible refine (spec_l6In.calls ((rd_T97 l0_4 x3_2).f1) 1 9999 true _ A28.out).mono ?_
               rintro e w' ⟨rfl, ⟨nd, rfl⟩⟩
               refine ⟨_, rfl, ?_⟩
               refine hK.out _ _ ⟨cl BK181.out 0 rfl, cl BK181.out 1 rfl, cl BK181.out 2 rfl, cl BK173.out 0 rfl, cl BK173.out 1 rfl, cl BK173.out 2 rfl, cl BK173.out 3 rfl, cl BK173.out 4 rfl, cl BK173.out 5 rfl, cl BK173.out 6 rfl, (tc HB.out hw185_0 :), (tc HB.out hw185_1 :), (tc HB.out hw185_2 :)⟩ (fun hHeld => ?_)
               clear hK K
               refine norm_ (a' := ?_) ?_ ?_
               rotate_left
               ·show Act.put _ (some 54) _ = _
                simp only [Act.put, List.setIfInBounds_toArray, List.set_cons_zero, List.set_cons_succ, i64_w, i32_w]
                rfl
               refine pa_ 8 (some 55) (any_of HT_.out (by kernel_rfl)) ?_
               refine pa_ 9 (some 56) (any_of HT_.out (by kernel_rfl)) ?_
               refine pa_ 10 (some 57) (any_of HT_.out (by kernel_rfl)) ?_
               refine pa_ 11 (some 58) (any_of HT_.out (by kernel_rfl)) ?_
               refine take_ (i := 12) (N := some 59) (v := ?_) (a' := ?_) #[true, true, true, true, true, true, true, true, true, true, true, true, true, false, false, false, false, false, false, false, false, false, false, false, false, false, false, false, false, false, false, false] rfl rfl (take_ofW HT_.out HW_.out (by kernel_rfl)) (fun _ _ _ h => h) (Or.inl ⟨by rfl, ?_⟩) hHeld ?_ ?_
               rotate_left
               ·rintro w' ⟨s0, s1, s2, s3, s4, s5, s6, s7, s8, s9, s10, s11, s12⟩
                go_simp
                with_reducible rfl
               rotate_left
               ·simp only [Act.put, List.setIfInBounds_toArray, List.set_cons_zero, List.set_cons_succ, i64_w, i32_w]
                rfl
               refine one_ (i := 13) (N := some 60) #[true, true, true, true, true, true, true, true, true, true, true, true, true, true, false, false, false, false, false, false, false, false, false, false, false, false, false, false, false, false, false, false] rfl rfl (one_of HT_.out (by kernel_rfl)) (by decide) (fun K hK => ?_)
               refine goes_ Try.func49 (by kernel_rfl) rfl #[.int .i64 ((rd_T97 l0_4 x3_2).f2), .int .i64 (-1), .int .i64 10] (by rfl) rfl rfl (by (try simp only [List.map_toArray, List.map_cons, List.map_nil]); first | done | rfl | (simp only [List.length_drop, List.length_take]; rfl)) ?_
               with_reducible refine (spec_l6In.calls ((rd_T97 l0_4 x3_2).f2) (-1) 10 true _ A30.out).mono ?_
               rintro e w' ⟨rfl, ⟨nd, rfl⟩⟩
               refine ⟨_, rfl, ?_⟩
               refine hK.out _ _ ⟨cl BK181.out 0 rfl, cl BK181.out 1 rfl, cl BK181.out 2 rfl, cl BK173.out 0 rfl, cl BK173.out 1 rfl, cl BK173.out 2 rfl, cl BK173.out 3 rfl, cl BK173.out 4 rfl, cl BK173.out 5 rfl, cl BK173.out 6 rfl, (tc HB.out hw185_0 :), (tc HB.out hw185_1 :), (tc HB.out hw185_2 :)⟩ (fun hHeld => ?_)
               clear hK K
               refine norm_ (a' := ?_) ?_ ?_
               rotate_left
               ·show Act.put _ (some 60) _ = _
                simp only [Act.put, List.setIfInBounds_toArray, List.set_cons_zero, List.set_cons_succ, i64_w, i32_w]
                rfl
               refine pa_ 14 (some 61) (any_of HT_.out (by kernel_rfl)) ?_
               refine pa_ 15 (some 62) (any_of HT_.out (by kernel_rfl)) ?_
               refine pa_ 16 (some 63) (any_of HT_.out (by kernel_rfl)) ?_
               refine pa_ 17 (some 64) (any_of HT_.out (by kernel_rfl)) ?_
               refine pa_ 18 (some 65) (any_of HT_.out (by kernel_rfl)) ?_
               refine pa_ 19 (some 66) (any_of HT_.out (by kernel_rfl)) ?_
               refine pa_ 20 (some 67) (any_of HT_.out (by kernel_rfl)) ?_
               refine pa_ 22 (some 69) (any_of HT_.out (by kernel_rfl)) ?_
               refine pa_ 23 (some 70) (any_of HT_.out (by kernel_rfl)) ?_
               refine pa_ 27 (some 74) (any_of HT_.out (by kernel_rfl)) ?_
               refine take_ (i := 21) (N := some 68) (v := ?_) (a' := ?_) #[true, true, true, true, true, true, true, true, true, true, true, true, true, true, true, true, true, true, true, true, true, true, true, true, false, false, false, true, false, false, false, false] rfl rfl (take_ofW HT_.out HW_.out (by kernel_rfl)) (fun _ _ _ h => h) (Or.inl ⟨by rfl, ?_⟩) hHeld ?_ ?_
               rotate_left
               ·rintro w' ⟨s0, s1, s2, s3, s4, s5, s6, s7, s8, s9, s10, s11, s12⟩
                go_simp
                with_reducible rfl
               rotate_left
               ·simp only [Act.put, List.setIfInBounds_toArray, List.set_cons_zero, List.set_cons_succ, i64_w, i32_w]
                rfl
               refine pa_ 24 (some 71) (any_of HT_.out (by kernel_rfl)) ?_
               refine pa_ 25 (some 72) (any_of HT_.out (by kernel_rfl)) ?_
               refine take_ (i := 26) (N := some 73) (v := ?_) (a' := ?_) #[true, true, true, true, true, true, true, true, true, true, true, true, true, true, true, true, true, true, true, true, true, true, true, true, true, true, true, true, false, false, false, false] rfl rfl (take_ofW HT_.out HW_.out (by kernel_rfl)) (fun _ _ _ h => h) (Or.inl ⟨by rfl, ?_⟩) hHeld ?_ ?_
               rotate_left
               ·rintro w' ⟨s0, s1, s2, s3, s4, s5, s6, s7, s8, s9, s10, s11, s12⟩
                go_simp
                with_reducible rfl
               rotate_left
               ·simp only [Act.put, List.setIfInBounds_toArray, List.set_cons_zero, List.set_cons_succ, i64_w, i32_w]
                rfl
               refine take_ (i := 28) (N := some 75) (v := ?_) (a' := ?_) #[true, true, true, true, true, true, true, true, true, true, true, true, true, true, true, true, true, true, true, true, true, true, true, true, true, true, true, true, true, false, false, false] rfl rfl (take_ofW HT_.out HW_.out (by kernel_rfl)) (fun _ _ _ h => h) (Or.inl ⟨by rfl, ?_⟩) hHeld ?_ ?_
               rotate_left
               ·rintro w' ⟨s0, s1, s2, s3, s4, s5, s6, s7, s8, s9, s10, s11, s12⟩
                go_simp
                with_reducible rfl
               rotate_left
               ·simp only [Act.put, List.setIfInBounds_toArray, List.set_cons_zero, List.set_cons_succ, i64_w, i32_w]
                rfl
               refine pa_ 29 (some 76) (any_of HT_.out (by kernel_rfl)) ?_
               refine pa_ 30 (some 77) (any_of HT_.out (by kernel_rfl)) ?_
               refine pa_ 31 (some 78) (any_of HT_.out (by kernel_rfl)) ?_
               refine done_ (done_of HT_.out (by kernel_rfl)) ?_
               try go_wp2
               go_roundg k2
               case measure => have := HJ1.out; have := HK2.out; omega
               case rel => exact ⟨(wrap64 (x3_2 + 1)), (by first | rfl | (simp; done) | (simp [*]; done)), H', ⟨by have := HJ1.out; have := HK2.out; omega⟩, ⟨by (with_reducible repeat (first | refine blk_drewN ?_ _ | refine blk_drew ?_ | refine blk_alloc ?_ _)); exact BK173.out⟩, ⟨by repeat (first | (with_reducible first | exact HB.out | apply ba | apply bn | apply bd | refine bt ?_ GE173.out | refine bt ?_ GE181.out) | exact HB.out)⟩⟩
             ·rw [if_neg c35] at H
              exact absurd H (by simp)
            ·rw [if_neg c34] at H
             exact absurd H (by simp)
           ·rw [if_neg c32] at H
            have c32b0 : decide (0 < x3_2) = false := decide_eq_false c32
            clear c32
            have H' := Aside0.mk H
            clear H
            have hcz49_0 : wr.cell? ⟨gb173, 0, none⟩ = some (.int .i64 a0_0) := cl BK173.out 0 rfl
            have hcz49_1 : wr.cell? ⟨gb173, 1, none⟩ = some (.int .i64 a0_1) := cl BK173.out 1 rfl
            have hcz49_2 : wr.cell? ⟨gb173, 2, none⟩ = some (.int .i64 a0_2) := cl BK173.out 2 rfl
            have hcz49_3 : wr.cell? ⟨gb173, 3, none⟩ = some (.slice A0_3 l0_3.length c0_3) := cl BK173.out 3 rfl
            have hcz49_4 : wr.cell? ⟨gb173, 4, none⟩ = some (.slice A0_4 l0_4.length c0_4) := cl BK173.out 4 rfl
            have hcz49_5 : wr.cell? ⟨gb173, 5, none⟩ = some (.int .i64 a0_5) := cl BK173.out 5 rfl
            have hcz49_6 : wr.cell? ⟨gb173, 6, none⟩ = some (.int .i64 a0_6) := cl BK173.out 6 rfl
            have hfz49_0 := fz BK173.out 0
            have hfz49_1 := fz BK173.out 1
            have hfz49_2 := fz BK173.out 2
            have hfz49_3 := fz BK173.out 3
            have hfz49_4 := fz BK173.out 4
            have hfz49_5 := fz BK173.out 5
            have hfz49_6 := fz BK173.out 6
            have p180 : 0 ≤ (x3_2 : Int) := of_decide_eq_true (by first | (with_reducible assumption) | assumption)
            have q180 : x3_2 < (l0_4.length : Int) := of_decide_eq_true (by first | (with_reducible assumption) | assumption)
            obtain ⟨ad180, e180, hx180_0, hx180_1, hx180_2⟩ := at_T97 HR0_4.out x3_2 p180 q180
            cases e180
            replace hx180_0 := tc HB.out hx180_0
            replace hx180_1 := tc HB.out hx180_1
            replace hx180_2 := tc HB.out hx180_2
            replace p180 := eq_true p180
            replace q180 := eq_true q180
            try go_wp2_with (first | ((with_reducible refine gate_dst (N := 4) rfl ?_); (try (refine gate_guard (by rfl) ?_; dsimp only)); refine box_event ?hg (N := 4) ?hd (cs := #[.int .i64 0, .int .i64 0, .int .i64 0]) (t := 97) ?hr ?_; (case hd => rfl); (case hg => rfl); (case hr => first | (go_simp; done) | (go_simp; rfl)); intro gb181 hg w50 hbox hb; have n0_ := Aside0.mk (blk_below (g := gb173) (o := .cells #[.int .i64 a0_0, .int .i64 a0_1, .int .i64 a0_2, .slice A0_3 l0_3.length c0_3, .slice (some ad180) l0_4.length c0_4, .int .i64 a0_5, .int .i64 a0_6] 44 (0, 0)) (by (with_reducible repeat (first | refine blk_drewN ?_ _ | refine blk_drew ?_ | refine blk_alloc ?_ _)); exact BK173.out) hb); have n1_ := Aside0.mk (below_step (by repeat (first | (with_reducible first | exact HB.out | apply ba | apply bn | apply bd | refine bt ?_ GE173.out) | exact HB.out)) hb); have n2_ := Aside0.mk (hbox); have n3_ := Aside0.mk ((by rw [hg]; exact (below_size (by repeat (first | (with_reducible first | exact HB.out | apply ba | apply bn | apply bd | refine bt ?_ GE173.out) | exact HB.out))) : w.heap.size ≤ gb181)); have n4_ := Aside0.mk ((by rw [hg]; exact (below_size (by repeat (first | (with_reducible first | exact HB.out | apply ba | apply bn | apply bd | refine bt ?_ GE173.out) | exact HB.out))) : w.heap.size ≤ gb181)); have n5_ := Aside0.mk ((by rw [hg]; exact Nat.ne_of_lt (blk_lt (g := gb173) (o := .cells #[.int .i64 a0_0, .int .i64 a0_1, .int .i64 a0_2, .slice A0_3 l0_3.length c0_3, .slice (some ad180) l0_4.length c0_4, .int .i64 a0_5, .int .i64 a0_6] 44 (0, 0)) (by (with_reducible repeat (first | refine blk_drewN ?_ _ | refine blk_drew ?_ | refine blk_alloc ?_ _)); exact BK173.out)) : gb173 ≠ gb181)); have n6_ := Aside0.mk ((by rw [hg]; exact Nat.ne_of_gt (blk_lt (g := gb173) (o := .cells #[.int .i64 a0_0, .int .i64 a0_1, .int .i64 a0_2, .slice A0_3 l0_3.length c0_3, .slice (some ad180) l0_4.length c0_4, .int .i64 a0_5, .int .i64 a0_6] 44 (0, 0)) (by (with_reducible repeat (first | refine blk_drewN ?_ _ | refine blk_drew ?_ | refine blk_alloc ?_ _)); exact BK173.out)) : gb181 ≠ gb173)); clear BK173; clear HB; have BK173 := n0_; have HB := n1_; have BK181 := n2_; have GW181 := n3_; have GE181 := n4_; have NB173_181 := n5_; have NB181_173 := n6_; clear n0_ n1_ n2_ n3_ n4_ n5_ n6_; clear hb hbox hg; have hnb51 := NB181_173.out; have hnc51 := NB173_181.out; have hcz52_0 : w50.cell? ⟨gb181, 0, none⟩ = some (.int .i64 0) := cl BK181.out 0 rfl; have hcz52_1 : w50.cell? ⟨gb181, 1, none⟩ = some (.int .i64 0) := cl BK181.out 1 rfl; have hcz52_2 : w50.cell? ⟨gb181, 2, none⟩ = some (.int .i64 0) := cl BK181.out 2 rfl; have hfz52_0 := fz BK181.out 0; have hfz52_1 := fz BK181.out 1; have hfz52_2 := fz BK181.out 2))
            have n0_ : Aside0 ((((w50.setCell ⟨gb181, 0, none⟩ (.int .i64 ((rd_T97 l0_4 x3_2).f0))).setCell ⟨gb181, 1, none⟩ (.int .i64 ((rd_T97 l0_4 x3_2).f1))).setCell ⟨gb181, 2, none⟩ (.int .i64 ((rd_T97 l0_4 x3_2).f2))).heap[gb173]? = some (.cells #[.int .i64 a0_0, .int .i64 a0_1, .int .i64 a0_2, .slice A0_3 l0_3.length c0_3, .slice (some ad180) l0_4.length c0_4, .int .i64 a0_5, .int .i64 a0_6] 44 (0, 0))) := ⟨by (with_reducible repeat (first | refine blk_drewN ?_ _ | refine blk_drew ?_ | refine blk_alloc ?_ _)); refine blk_far ?_ NB173_181.out _; (with_reducible repeat (first | refine blk_drewN ?_ _ | refine blk_drew ?_ | refine blk_alloc ?_ _)); refine blk_far ?_ NB173_181.out _; (with_reducible repeat (first | refine blk_drewN ?_ _ | refine blk_drew ?_ | refine blk_alloc ?_ _)); refine blk_far ?_ NB173_181.out _; (with_reducible repeat (first | refine blk_drewN ?_ _ | refine blk_drew ?_ | refine blk_alloc ?_ _)); exact BK173.out⟩
            have n1_ : Aside0 ((((w50.setCell ⟨gb181, 0, none⟩ (.int .i64 ((rd_T97 l0_4 x3_2).f0))).setCell ⟨gb181, 1, none⟩ (.int .i64 ((rd_T97 l0_4 x3_2).f1))).setCell ⟨gb181, 2, none⟩ (.int .i64 ((rd_T97 l0_4 x3_2).f2))).heap[gb181]? = some (.cells #[.int .i64 ((rd_T97 l0_4 x3_2).f0), .int .i64 ((rd_T97 l0_4 x3_2).f1), .int .i64 ((rd_T97 l0_4 x3_2).f2)] 97 (0, 0))) := ⟨by (with_reducible repeat (first | refine blk_drewN ?_ _ | refine blk_drew ?_ | refine blk_alloc ?_ _)); refine blk_put (cs := #[.int .i64 ((rd_T97 l0_4 x3_2).f0), .int .i64 ((rd_T97 l0_4 x3_2).f1), .int .i64 0]) ?_ 2 _ rfl; (with_reducible repeat (first | refine blk_drewN ?_ _ | refine blk_drew ?_ | refine blk_alloc ?_ _)); refine blk_put (cs := #[.int .i64 ((rd_T97 l0_4 x3_2).f0), .int .i64 0, .int .i64 0]) ?_ 1 _ rfl; (with_reducible repeat (first | refine blk_drewN ?_ _ | refine blk_drew ?_ | refine blk_alloc ?_ _)); refine blk_put (cs := #[.int .i64 0, .int .i64 0, .int .i64 0]) ?_ 0 _ rfl; (with_reducible repeat (first | refine blk_drewN ?_ _ | refine blk_drew ?_ | refine blk_alloc ?_ _)); exact BK181.out⟩
            have n2_ : Aside0 (Below w.heap.size w (((w50.setCell ⟨gb181, 0, none⟩ (.int .i64 ((rd_T97 l0_4 x3_2).f0))).setCell ⟨gb181, 1, none⟩ (.int .i64 ((rd_T97 l0_4 x3_2).f1))).setCell ⟨gb181, 2, none⟩ (.int .i64 ((rd_T97 l0_4 x3_2).f2)))) := ⟨by repeat (first | (with_reducible first | exact HB.out | apply ba | apply bn | apply bd | refine bt ?_ GE173.out | refine bt ?_ GE181.out) | exact HB.out)⟩
            (try clear BK173)
            (try clear BK181)
            (try clear HB)
            generalize (((w50.setCell ⟨gb181, 0, none⟩ (.int .i64 ((rd_T97 l0_4 x3_2).f0))).setCell ⟨gb181, 1, none⟩ (.int .i64 ((rd_T97 l0_4 x3_2).f1))).setCell ⟨gb181, 2, none⟩ (.int .i64 ((rd_T97 l0_4 x3_2).f2))) = w53 at n0_ n1_ n2_ ⊢
            have BK173 := n0_
            have BK181 := n1_
            have HB := n2_
            clear n0_ n1_ n2_
            have n0_ := Aside0.mk (blk_drew BK173.out)
            have n1_ := Aside0.mk (blk_drew BK181.out)
            have n2_ := Aside0.mk (below_drew1 HB.out)
            clear BK173
            clear BK181
            clear HB
            have BK173 := n0_
            have BK181 := n1_
            have HB := n2_
            clear n0_ n1_ n2_
            refine start_ (n := 32) (S := fun w' => w'.cell? ⟨gb181, 0, none⟩ = some (.int .i64 ((rd_T97 l0_4 x3_2).f0)) ∧ w'.cell? ⟨gb181, 1, none⟩ = some (.int .i64 ((rd_T97 l0_4 x3_2).f1)) ∧ w'.cell? ⟨gb181, 2, none⟩ = some (.int .i64 ((rd_T97 l0_4 x3_2).f2))) (ds := []) #[false, false, false, false, false, false, false, false, false, false, false, false, false, false, false, false, false, false, false, false, false, false, false, false, false, false, false, false, false, false, false, false] (by kernel_rfl) rfl rfl ⟨cl BK181.out 0 rfl, cl BK181.out 1 rfl, cl BK181.out 2 rfl⟩ (fun hHeld => ?_); refine with_tabW spec_PlanOk.tab7 spec_PlanOk.bits7 (fun HT_ HW_ => ?_)
            generalize w53.drew = w54 at BK173 BK181 HB hHeld ⊢
            refine pa_ 0 (some 47) (any_of HT_.out (by kernel_rfl)) ?_
            refine take_ (i := 1) (N := some 48) (v := ?_) (a' := ?_) #[true, true, false, false, false, false, false, false, false, false, false, false, false, false, false, false, false, false, false, false, false, false, false, false, false, false, false, false, false, false, false, false] rfl rfl (take_ofW HT_.out HW_.out (by kernel_rfl)) (fun _ _ _ h => h) (Or.inl ⟨by rfl, ?_⟩) hHeld ?_ ?_
            rotate_left
            ·rintro w' ⟨s0, s1, s2⟩
             go_simp
             with_reducible rfl
            rotate_left
            ·simp only [Act.put, List.setIfInBounds_toArray, List.set_cons_zero, List.set_cons_succ, i64_w, i32_w]
             rfl
            refine one_ (i := 2) (N := some 49) #[true, true, true, false, false, false, false, false, false, false, false, false, false, false, false, false, false, false, false, false, false, false, false, false, false, false, false, false, false, false, false, false] rfl rfl (one_of HT_.out (by kernel_rfl)) (by decide) (fun K hK => ?_)
            refine goes_ Try.func49 (by kernel_rfl) rfl #[.int .i64 ((rd_T97 l0_4 x3_2).f0), .int .i64 0, .int .i64 3] (by rfl) rfl rfl (by (try simp only [List.map_toArray, List.map_cons, List.map_nil]); first | done | rfl | (simp only [List.length_drop, List.length_take]; rfl)) ?_
            with_reducible refine (spec_l6In.calls ((rd_T97 l0_4 x3_2).f0) 0 3 true _ A26.out).mono ?_
            rintro e w' ⟨rfl, ⟨nd, rfl⟩⟩
            refine ⟨_, rfl, ?_⟩
            refine hK.out _ _ ⟨cl BK181.out 0 rfl, cl BK181.out 1 rfl, cl BK181.out 2 rfl⟩ (fun hHeld => ?_)
            clear hK K
            refine norm_ (a' := ?_) ?_ ?_
            rotate_left
            ·show Act.put _ (some 49) _ = _
             simp only [Act.put, List.setIfInBounds_toArray, List.set_cons_zero, List.set_cons_succ, i64_w, i32_w]
             rfl
            refine pa_ 3 (some 50) (any_of HT_.out (by kernel_rfl)) ?_
            refine pa_ 4 (some 51) (any_of HT_.out (by kernel_rfl)) ?_
            refine pa_ 5 (some 52) (any_of HT_.out (by kernel_rfl)) ?_
            refine take_ (i := 6) (N := some 53) (v := ?_) (a' := ?_) #[true, true, true, true, true, true, true, false, false, false, false, false, false, false, false, false, false, false, false, false, false, false, false, false, false, false, false, false, false, false, false, false] rfl rfl (take_ofW HT_.out HW_.out (by kernel_rfl)) (fun _ _ _ h => h) (Or.inl ⟨by rfl, ?_⟩) hHeld ?_ ?_
            rotate_left
            ·rintro w' ⟨s0, s1, s2⟩
             go_simp
             with_reducible rfl
            rotate_left
            ·simp only [Act.put, List.setIfInBounds_toArray, List.set_cons_zero, List.set_cons_succ, i64_w, i32_w]
             rfl
            refine one_ (i := 7) (N := some 54) #[true, true, true, true, true, true, true, true, false, false, false, false, false, false, false, false, false, false, false, false, false, false, false, false, false, false, false, false, false, false, false, false] rfl rfl (one_of HT_.out (by kernel_rfl)) (by decide) (fun K hK => ?_)
            refine goes_ Try.func49 (by kernel_rfl) rfl #[.int .i64 ((rd_T97 l0_4 x3_2).f1), .int .i64 1, .int .i64 9999] (by rfl) rfl rfl (by (try simp only [List.map_toArray, List.map_cons, List.map_nil]); first | done | rfl | (simp only [List.length_drop, List.length_take]; rfl)) ?_
            with_reducible refine (spec_l6In.calls ((rd_T97 l0_4 x3_2).f1) 1 9999 true _ A28.out).mono ?_
            rintro e w' ⟨rfl, ⟨nd, rfl⟩⟩
            refine ⟨_, rfl, ?_⟩
            refine hK.out _ _ ⟨cl BK181.out 0 rfl, cl BK181.out 1 rfl, cl BK181.out 2 rfl⟩ (fun hHeld => ?_)
            clear hK K
            refine norm_ (a' := ?_) ?_ ?_
            rotate_left
            ·show Act.put _ (some 54) _ = _
             simp only [Act.put, List.setIfInBounds_toArray, List.set_cons_zero, List.set_cons_succ, i64_w, i32_w]
             rfl
            refine pa_ 8 (some 55) (any_of HT_.out (by kernel_rfl)) ?_
            refine pa_ 9 (some 56) (any_of HT_.out (by kernel_rfl)) ?_
            refine pa_ 10 (some 57) (any_of HT_.out (by kernel_rfl)) ?_
            refine pa_ 11 (some 58) (any_of HT_.out (by kernel_rfl)) ?_
            refine take_ (i := 12) (N := some 59) (v := ?_) (a' := ?_) #[true, true, true, true, true, true, true, true, true, true, true, true, true, false, false, false, false, false, false, false, false, false, false, false, false, false, false, false, false, false, false, false] rfl rfl (take_ofW HT_.out HW_.out (by kernel_rfl)) (fun _ _ _ h => h) (Or.inl ⟨by rfl, ?_⟩) hHeld ?_ ?_
            rotate_left
            ·rintro w' ⟨s0, s1, s2⟩
             go_simp
             with_reducible rfl
            rotate_left
            ·simp only [Act.put, List.setIfInBounds_toArray, List.set_cons_zero, List.set_cons_succ, i64_w, i32_w]
             rfl
            refine one_ (i := 13) (N := some 60) #[true, true, true, true, true, true, true, true, true, true, true, true, true, true, false, false, false, false, false, false, false, false, false, false, false, false, false, false, false, false, false, false] rfl rfl (one_of HT_.out (by kernel_rfl)) (by decide) (fun K hK => ?_)
            refine goes_ Try.func49 (by kernel_rfl) rfl #[.int .i64 ((rd_T97 l0_4 x3_2).f2), .int .i64 (-1), .int .i64 10] (by rfl) rfl rfl (by (try simp only [List.map_toArray, List.map_cons, List.map_nil]); first | done | rfl | (simp only [List.length_drop, List.length_take]; rfl)) ?_
            with_reducible refine (spec_l6In.calls ((rd_T97 l0_4 x3_2).f2) (-1) 10 true _ A30.out).mono ?_
            rintro e w' ⟨rfl, ⟨nd, rfl⟩⟩
            refine ⟨_, rfl, ?_⟩
            refine hK.out _ _ ⟨cl BK181.out 0 rfl, cl BK181.out 1 rfl, cl BK181.out 2 rfl⟩ (fun hHeld => ?_)
            clear hK K
            refine norm_ (a' := ?_) ?_ ?_
            rotate_left
            ·show Act.put _ (some 60) _ = _
             simp only [Act.put, List.setIfInBounds_toArray, List.set_cons_zero, List.set_cons_succ, i64_w, i32_w]
             rfl
            refine pa_ 14 (some 61) (any_of HT_.out (by kernel_rfl)) ?_
            refine pa_ 15 (some 62) (any_of HT_.out (by kernel_rfl)) ?_
            refine pa_ 16 (some 63) (any_of HT_.out (by kernel_rfl)) ?_
            refine pa_ 17 (some 64) (any_of HT_.out (by kernel_rfl)) ?_
            refine pa_ 18 (some 65) (any_of HT_.out (by kernel_rfl)) ?_
            refine pa_ 19 (some 66) (any_of HT_.out (by kernel_rfl)) ?_
            refine pu_ 20 (some 67) (any_of HT_.out (by kernel_rfl)) ?_
            refine pu_ 21 (some 68) (any_of HT_.out (by kernel_rfl)) ?_
            refine pu_ 22 (some 69) (any_of HT_.out (by kernel_rfl)) ?_
            refine pu_ 23 (some 70) (any_of HT_.out (by kernel_rfl)) ?_
            refine pu_ 24 (some 71) (any_of HT_.out (by kernel_rfl)) ?_
            refine pu_ 25 (some 72) (any_of HT_.out (by kernel_rfl)) ?_
            refine pu_ 26 (some 73) (any_of HT_.out (by kernel_rfl)) ?_
            refine pu_ 27 (some 74) (any_of HT_.out (by kernel_rfl)) ?_
            refine pu_ 28 (some 75) (any_of HT_.out (by kernel_rfl)) ?_
            refine pu_ 29 (some 76) (any_of HT_.out (by kernel_rfl)) ?_
            refine pa_ 30 (some 77) (any_of HT_.out (by kernel_rfl)) ?_
            refine pa_ 31 (some 78) (any_of HT_.out (by kernel_rfl)) ?_
            refine done_ (done_of HT_.out (by kernel_rfl)) ?_
            try go_wp2
            go_roundg k2
            case measure => have := HJ1.out; have := HK2.out; omega
            case rel => exact ⟨(wrap64 (x3_2 + 1)), (by first | rfl | (simp; done) | (simp [*]; done)), H', ⟨by have := HJ1.out; have := HK2.out; omega⟩, ⟨by (with_reducible repeat (first | refine blk_drewN ?_ _ | refine blk_drew ?_ | refine blk_alloc ?_ _)); exact BK173.out⟩, ⟨by repeat (first | (with_reducible first | exact HB.out | apply ba | apply bn | apply bd | refine bt ?_ GE173.out | refine bt ?_ GE181.out) | exact HB.out)⟩⟩
          ·replace c31 := Bool.eq_false_iff.mpr c31
           subst c31
           have H1 : (some false) = some r := by rw [if_neg (show ¬ (false = true) by decide)] at H; exact H
           clear H
           have H := H1
           clear H1
           obtain rfl := Option.some.inj H
           have hcz55_0 : wr.cell? ⟨gb173, 0, none⟩ = some (.int .i64 a0_0) := cl BK173.out 0 rfl
           have hcz55_1 : wr.cell? ⟨gb173, 1, none⟩ = some (.int .i64 a0_1) := cl BK173.out 1 rfl
           have hcz55_2 : wr.cell? ⟨gb173, 2, none⟩ = some (.int .i64 a0_2) := cl BK173.out 2 rfl
           have hcz55_3 : wr.cell? ⟨gb173, 3, none⟩ = some (.slice A0_3 l0_3.length c0_3) := cl BK173.out 3 rfl
           have hcz55_4 : wr.cell? ⟨gb173, 4, none⟩ = some (.slice A0_4 l0_4.length c0_4) := cl BK173.out 4 rfl
           have hcz55_5 : wr.cell? ⟨gb173, 5, none⟩ = some (.int .i64 a0_5) := cl BK173.out 5 rfl
           have hcz55_6 : wr.cell? ⟨gb173, 6, none⟩ = some (.int .i64 a0_6) := cl BK173.out 6 rfl
           have hfz55_0 := fz BK173.out 0
           have hfz55_1 := fz BK173.out 1
           have hfz55_2 := fz BK173.out 2
           have hfz55_3 := fz BK173.out 3
           have hfz55_4 := fz BK173.out 4
           have hfz55_5 := fz BK173.out 5
           have hfz55_6 := fz BK173.out 6
           have p180 : 0 ≤ (x3_2 : Int) := of_decide_eq_true (by first | (with_reducible assumption) | assumption)
           have q180 : x3_2 < (l0_4.length : Int) := of_decide_eq_true (by first | (with_reducible assumption) | assumption)
           obtain ⟨ad180, e180, hx180_0, hx180_1, hx180_2⟩ := at_T97 HR0_4.out x3_2 p180 q180
           cases e180
           replace hx180_0 := tc HB.out hx180_0
           replace hx180_1 := tc HB.out hx180_1
           replace hx180_2 := tc HB.out hx180_2
           replace p180 := eq_true p180
           replace q180 := eq_true q180
           try go_wp2_with (first | ((with_reducible refine gate_dst (N := 4) rfl ?_); (try (refine gate_guard (by rfl) ?_; dsimp only)); refine box_event ?hg (N := 4) ?hd (cs := #[.int .i64 0, .int .i64 0, .int .i64 0]) (t := 97) ?hr ?_; (case hd => rfl); (case hg => rfl); (case hr => first | (go_simp; done) | (go_simp; rfl)); intro gb181 hg w56 hbox hb; have n0_ := Aside0.mk (blk_below (g := gb173) (o := .cells #[.int .i64 a0_0, .int .i64 a0_1, .int .i64 a0_2, .slice A0_3 l0_3.length c0_3, .slice (some ad180) l0_4.length c0_4, .int .i64 a0_5, .int .i64 a0_6] 44 (0, 0)) (by (with_reducible repeat (first | refine blk_drewN ?_ _ | refine blk_drew ?_ | refine blk_alloc ?_ _)); exact BK173.out) hb); have n1_ := Aside0.mk (below_step (by repeat (first | (with_reducible first | exact HB.out | apply ba | apply bn | apply bd | refine bt ?_ GE173.out) | exact HB.out)) hb); have n2_ := Aside0.mk (hbox); have n3_ := Aside0.mk ((by rw [hg]; exact (below_size (by repeat (first | (with_reducible first | exact HB.out | apply ba | apply bn | apply bd | refine bt ?_ GE173.out) | exact HB.out))) : w.heap.size ≤ gb181)); have n4_ := Aside0.mk ((by rw [hg]; exact (below_size (by repeat (first | (with_reducible first | exact HB.out | apply ba | apply bn | apply bd | refine bt ?_ GE173.out) | exact HB.out))) : w.heap.size ≤ gb181)); have n5_ := Aside0.mk ((by rw [hg]; exact Nat.ne_of_lt (blk_lt (g := gb173) (o := .cells #[.int .i64 a0_0, .int .i64 a0_1, .int .i64 a0_2, .slice A0_3 l0_3.length c0_3, .slice (some ad180) l0_4.length c0_4, .int .i64 a0_5, .int .i64 a0_6] 44 (0, 0)) (by (with_reducible repeat (first | refine blk_drewN ?_ _ | refine blk_drew ?_ | refine blk_alloc ?_ _)); exact BK173.out)) : gb173 ≠ gb181)); have n6_ := Aside0.mk ((by rw [hg]; exact Nat.ne_of_gt (blk_lt (g := gb173) (o := .cells #[.int .i64 a0_0, .int .i64 a0_1, .int .i64 a0_2, .slice A0_3 l0_3.length c0_3, .slice (some ad180) l0_4.length c0_4, .int .i64 a0_5, .int .i64 a0_6] 44 (0, 0)) (by (with_reducible repeat (first | refine blk_drewN ?_ _ | refine blk_drew ?_ | refine blk_alloc ?_ _)); exact BK173.out)) : gb181 ≠ gb173)); clear BK173; clear HB; have BK173 := n0_; have HB := n1_; have BK181 := n2_; have GW181 := n3_; have GE181 := n4_; have NB173_181 := n5_; have NB181_173 := n6_; clear n0_ n1_ n2_ n3_ n4_ n5_ n6_; clear hb hbox hg; have hnb57 := NB181_173.out; have hnc57 := NB173_181.out; have hcz58_0 : w56.cell? ⟨gb181, 0, none⟩ = some (.int .i64 0) := cl BK181.out 0 rfl; have hcz58_1 : w56.cell? ⟨gb181, 1, none⟩ = some (.int .i64 0) := cl BK181.out 1 rfl; have hcz58_2 : w56.cell? ⟨gb181, 2, none⟩ = some (.int .i64 0) := cl BK181.out 2 rfl; have hfz58_0 := fz BK181.out 0; have hfz58_1 := fz BK181.out 1; have hfz58_2 := fz BK181.out 2))
           have n0_ : Aside0 ((((w56.setCell ⟨gb181, 0, none⟩ (.int .i64 ((rd_T97 l0_4 x3_2).f0))).setCell ⟨gb181, 1, none⟩ (.int .i64 ((rd_T97 l0_4 x3_2).f1))).setCell ⟨gb181, 2, none⟩ (.int .i64 ((rd_T97 l0_4 x3_2).f2))).heap[gb173]? = some (.cells #[.int .i64 a0_0, .int .i64 a0_1, .int .i64 a0_2, .slice A0_3 l0_3.length c0_3, .slice (some ad180) l0_4.length c0_4, .int .i64 a0_5, .int .i64 a0_6] 44 (0, 0))) := ⟨by (with_reducible repeat (first | refine blk_drewN ?_ _ | refine blk_drew ?_ | refine blk_alloc ?_ _)); refine blk_far ?_ NB173_181.out _; (with_reducible repeat (first | refine blk_drewN ?_ _ | refine blk_drew ?_ | refine blk_alloc ?_ _)); refine blk_far ?_ NB173_181.out _; (with_reducible repeat (first | refine blk_drewN ?_ _ | refine blk_drew ?_ | refine blk_alloc ?_ _)); refine blk_far ?_ NB173_181.out _; (with_reducible repeat (first | refine blk_drewN ?_ _ | refine blk_drew ?_ | refine blk_alloc ?_ _)); exact BK173.out⟩
           have n1_ : Aside0 ((((w56.setCell ⟨gb181, 0, none⟩ (.int .i64 ((rd_T97 l0_4 x3_2).f0))).setCell ⟨gb181, 1, none⟩ (.int .i64 ((rd_T97 l0_4 x3_2).f1))).setCell ⟨gb181, 2, none⟩ (.int .i64 ((rd_T97 l0_4 x3_2).f2))).heap[gb181]? = some (.cells #[.int .i64 ((rd_T97 l0_4 x3_2).f0), .int .i64 ((rd_T97 l0_4 x3_2).f1), .int .i64 ((rd_T97 l0_4 x3_2).f2)] 97 (0, 0))) := ⟨by (with_reducible repeat (first | refine blk_drewN ?_ _ | refine blk_drew ?_ | refine blk_alloc ?_ _)); refine blk_put (cs := #[.int .i64 ((rd_T97 l0_4 x3_2).f0), .int .i64 ((rd_T97 l0_4 x3_2).f1), .int .i64 0]) ?_ 2 _ rfl; (with_reducible repeat (first | refine blk_drewN ?_ _ | refine blk_drew ?_ | refine blk_alloc ?_ _)); refine blk_put (cs := #[.int .i64 ((rd_T97 l0_4 x3_2).f0), .int .i64 0, .int .i64 0]) ?_ 1 _ rfl; (with_reducible repeat (first | refine blk_drewN ?_ _ | refine blk_drew ?_ | refine blk_alloc ?_ _)); refine blk_put (cs := #[.int .i64 0, .int .i64 0, .int .i64 0]) ?_ 0 _ rfl; (with_reducible repeat (first | refine blk_drewN ?_ _ | refine blk_drew ?_ | refine blk_alloc ?_ _)); exact BK181.out⟩
           have n2_ : Aside0 (Below w.heap.size w (((w56.setCell ⟨gb181, 0, none⟩ (.int .i64 ((rd_T97 l0_4 x3_2).f0))).setCell ⟨gb181, 1, none⟩ (.int .i64 ((rd_T97 l0_4 x3_2).f1))).setCell ⟨gb181, 2, none⟩ (.int .i64 ((rd_T97 l0_4 x3_2).f2)))) := ⟨by repeat (first | (with_reducible first | exact HB.out | apply ba | apply bn | apply bd | refine bt ?_ GE173.out | refine bt ?_ GE181.out) | exact HB.out)⟩
           (try clear BK173)
           (try clear BK181)
           (try clear HB)
           generalize (((w56.setCell ⟨gb181, 0, none⟩ (.int .i64 ((rd_T97 l0_4 x3_2).f0))).setCell ⟨gb181, 1, none⟩ (.int .i64 ((rd_T97 l0_4 x3_2).f1))).setCell ⟨gb181, 2, none⟩ (.int .i64 ((rd_T97 l0_4 x3_2).f2))) = w59 at n0_ n1_ n2_ ⊢
           have BK173 := n0_
           have BK181 := n1_
           have HB := n2_
           clear n0_ n1_ n2_
           have n0_ := Aside0.mk (blk_drew BK173.out)
           have n1_ := Aside0.mk (blk_drew BK181.out)
           have n2_ := Aside0.mk (below_drew1 HB.out)
           clear BK173
           clear BK181
           clear HB
           have BK173 := n0_
           have BK181 := n1_
           have HB := n2_
           clear n0_ n1_ n2_
           refine start_ (n := 32) (S := fun w' => w'.cell? ⟨gb181, 0, none⟩ = some (.int .i64 ((rd_T97 l0_4 x3_2).f0)) ∧ w'.cell? ⟨gb181, 1, none⟩ = some (.int .i64 ((rd_T97 l0_4 x3_2).f1)) ∧ w'.cell? ⟨gb181, 2, none⟩ = some (.int .i64 ((rd_T97 l0_4 x3_2).f2))) (ds := []) #[false, false, false, false, false, false, false, false, false, false, false, false, false, false, false, false, false, false, false, false, false, false, false, false, false, false, false, false, false, false, false, false] (by kernel_rfl) rfl rfl ⟨cl BK181.out 0 rfl, cl BK181.out 1 rfl, cl BK181.out 2 rfl⟩ (fun hHeld => ?_); refine with_tabW spec_PlanOk.tab7 spec_PlanOk.bits7 (fun HT_ HW_ => ?_)
           generalize w59.drew = w60 at BK173 BK181 HB hHeld ⊢
           refine pa_ 0 (some 47) (any_of HT_.out (by kernel_rfl)) ?_
           refine take_ (i := 1) (N := some 48) (v := ?_) (a' := ?_) #[true, true, false, false, false, false, false, false, false, false, false, false, false, false, false, false, false, false, false, false, false, false, false, false, false, false, false, false, false, false, false, false] rfl rfl (take_ofW HT_.out HW_.out (by kernel_rfl)) (fun _ _ _ h => h) (Or.inl ⟨by rfl, ?_⟩) hHeld ?_ ?_
           rotate_left
           ·rintro w' ⟨s0, s1, s2⟩
            go_simp
            with_reducible rfl
           rotate_left
           ·simp only [Act.put, List.setIfInBounds_toArray, List.set_cons_zero, List.set_cons_succ, i64_w, i32_w]
            rfl
           refine one_ (i := 2) (N := some 49) #[true, true, true, false, false, false, false, false, false, false, false, false, false, false, false, false, false, false, false, false, false, false, false, false, false, false, false, false, false, false, false, false] rfl rfl (one_of HT_.out (by kernel_rfl)) (by decide) (fun K hK => ?_)
           refine goes_ Try.func49 (by kernel_rfl) rfl #[.int .i64 ((rd_T97 l0_4 x3_2).f0), .int .i64 0, .int .i64 3] (by rfl) rfl rfl (by (try simp only [List.map_toArray, List.map_cons, List.map_nil]); first | done | rfl | (simp only [List.length_drop, List.length_take]; rfl)) ?_
           with_reducible refine (spec_l6In.calls ((rd_T97 l0_4 x3_2).f0) 0 3 true _ A26.out).mono ?_
           rintro e w' ⟨rfl, ⟨nd, rfl⟩⟩
           refine ⟨_, rfl, ?_⟩
           refine hK.out _ _ ⟨cl BK181.out 0 rfl, cl BK181.out 1 rfl, cl BK181.out 2 rfl⟩ (fun hHeld => ?_)
           clear hK K
           refine norm_ (a' := ?_) ?_ ?_
           rotate_left
           ·show Act.put _ (some 49) _ = _
            simp only [Act.put, List.setIfInBounds_toArray, List.set_cons_zero, List.set_cons_succ, i64_w, i32_w]
            rfl
           refine pa_ 3 (some 50) (any_of HT_.out (by kernel_rfl)) ?_
           refine pa_ 4 (some 51) (any_of HT_.out (by kernel_rfl)) ?_
           refine pa_ 5 (some 52) (any_of HT_.out (by kernel_rfl)) ?_
           refine take_ (i := 6) (N := some 53) (v := ?_) (a' := ?_) #[true, true, true, true, true, true, true, false, false, false, false, false, false, false, false, false, false, false, false, false, false, false, false, false, false, false, false, false, false, false, false, false] rfl rfl (take_ofW HT_.out HW_.out (by kernel_rfl)) (fun _ _ _ h => h) (Or.inl ⟨by rfl, ?_⟩) hHeld ?_ ?_
           rotate_left
           ·rintro w' ⟨s0, s1, s2⟩
            go_simp
            with_reducible rfl
           rotate_left
           ·simp only [Act.put, List.setIfInBounds_toArray, List.set_cons_zero, List.set_cons_succ, i64_w, i32_w]
            rfl
           refine one_ (i := 7) (N := some 54) #[true, true, true, true, true, true, true, true, false, false, false, false, false, false, false, false, false, false, false, false, false, false, false, false, false, false, false, false, false, false, false, false] rfl rfl (one_of HT_.out (by kernel_rfl)) (by decide) (fun K hK => ?_)
           refine goes_ Try.func49 (by kernel_rfl) rfl #[.int .i64 ((rd_T97 l0_4 x3_2).f1), .int .i64 1, .int .i64 9999] (by rfl) rfl rfl (by (try simp only [List.map_toArray, List.map_cons, List.map_nil]); first | done | rfl | (simp only [List.length_drop, List.length_take]; rfl)) ?_
           with_reducible refine (spec_l6In.calls ((rd_T97 l0_4 x3_2).f1) 1 9999 true _ A28.out).mono ?_
           rintro e w' ⟨rfl, ⟨nd, rfl⟩⟩
           refine ⟨_, rfl, ?_⟩
           refine hK.out _ _ ⟨cl BK181.out 0 rfl, cl BK181.out 1 rfl, cl BK181.out 2 rfl⟩ (fun hHeld => ?_)
           clear hK K
           refine norm_ (a' := ?_) ?_ ?_
           rotate_left
           ·show Act.put _ (some 54) _ = _
            simp only [Act.put, List.setIfInBounds_toArray, List.set_cons_zero, List.set_cons_succ, i64_w, i32_w]
            rfl
           refine pa_ 8 (some 55) (any_of HT_.out (by kernel_rfl)) ?_
           refine pa_ 9 (some 56) (any_of HT_.out (by kernel_rfl)) ?_
           refine pa_ 10 (some 57) (any_of HT_.out (by kernel_rfl)) ?_
           refine pa_ 11 (some 58) (any_of HT_.out (by kernel_rfl)) ?_
           refine take_ (i := 12) (N := some 59) (v := ?_) (a' := ?_) #[true, true, true, true, true, true, true, true, true, true, true, true, true, false, false, false, false, false, false, false, false, false, false, false, false, false, false, false, false, false, false, false] rfl rfl (take_ofW HT_.out HW_.out (by kernel_rfl)) (fun _ _ _ h => h) (Or.inl ⟨by rfl, ?_⟩) hHeld ?_ ?_
           rotate_left
           ·rintro w' ⟨s0, s1, s2⟩
            go_simp
            with_reducible rfl
           rotate_left
           ·simp only [Act.put, List.setIfInBounds_toArray, List.set_cons_zero, List.set_cons_succ, i64_w, i32_w]
            rfl
           refine one_ (i := 13) (N := some 60) #[true, true, true, true, true, true, true, true, true, true, true, true, true, true, false, false, false, false, false, false, false, false, false, false, false, false, false, false, false, false, false, false] rfl rfl (one_of HT_.out (by kernel_rfl)) (by decide) (fun K hK => ?_)
           refine goes_ Try.func49 (by kernel_rfl) rfl #[.int .i64 ((rd_T97 l0_4 x3_2).f2), .int .i64 (-1), .int .i64 10] (by rfl) rfl rfl (by (try simp only [List.map_toArray, List.map_cons, List.map_nil]); first | done | rfl | (simp only [List.length_drop, List.length_take]; rfl)) ?_
           with_reducible refine (spec_l6In.calls ((rd_T97 l0_4 x3_2).f2) (-1) 10 false _ A30.out).mono ?_
           rintro e w' ⟨rfl, ⟨nd, rfl⟩⟩
           refine ⟨_, rfl, ?_⟩
           refine hK.out _ _ ⟨cl BK181.out 0 rfl, cl BK181.out 1 rfl, cl BK181.out 2 rfl⟩ (fun hHeld => ?_)
           clear hK K
           refine norm_ (a' := ?_) ?_ ?_
           rotate_left
           ·show Act.put _ (some 60) _ = _
            simp only [Act.put, List.setIfInBounds_toArray, List.set_cons_zero, List.set_cons_succ, i64_w, i32_w]
            rfl
           refine pa_ 14 (some 61) (any_of HT_.out (by kernel_rfl)) ?_
           refine pa_ 15 (some 62) (any_of HT_.out (by kernel_rfl)) ?_
           refine pa_ 16 (some 63) (any_of HT_.out (by kernel_rfl)) ?_
           refine pu_ 17 (some 64) (any_of HT_.out (by kernel_rfl)) ?_
           refine pu_ 18 (some 65) (any_of HT_.out (by kernel_rfl)) ?_
           refine pu_ 19 (some 66) (any_of HT_.out (by kernel_rfl)) ?_
           refine pu_ 20 (some 67) (any_of HT_.out (by kernel_rfl)) ?_
           refine pu_ 21 (some 68) (any_of HT_.out (by kernel_rfl)) ?_
           refine pu_ 22 (some 69) (any_of HT_.out (by kernel_rfl)) ?_
           refine pu_ 23 (some 70) (any_of HT_.out (by kernel_rfl)) ?_
           refine pu_ 24 (some 71) (any_of HT_.out (by kernel_rfl)) ?_
           refine pu_ 25 (some 72) (any_of HT_.out (by kernel_rfl)) ?_
           refine pu_ 26 (some 73) (any_of HT_.out (by kernel_rfl)) ?_
           refine pu_ 27 (some 74) (any_of HT_.out (by kernel_rfl)) ?_
           refine pu_ 28 (some 75) (any_of HT_.out (by kernel_rfl)) ?_
           refine pu_ 29 (some 76) (any_of HT_.out (by kernel_rfl)) ?_
           refine pu_ 30 (some 77) (any_of HT_.out (by kernel_rfl)) ?_
           refine pa_ 31 (some 78) (any_of HT_.out (by kernel_rfl)) ?_
           refine done_ (done_of HT_.out (by kernel_rfl)) ?_
           try go_wp2
           go_ret
           exact ⟨by first | rfl | (simp [errW_none, errW_some] <;> rfl) | (simp [*, errW_none, errW_some] <;> rfl), by repeat (first | (with_reducible first | exact HB.out | apply ba | apply bn | apply bd | refine bt ?_ GE173.out | refine bt ?_ GE181.out) | exact HB.out)⟩
         ·replace c29 := Bool.eq_false_iff.mpr c29
          subst c29
          have H1 : (some false) = some r := by rw [if_neg (show ¬ (false = true) by decide)] at H; exact H
          clear H
          have H := H1
          clear H1
          obtain rfl := Option.some.inj H
          have hcz61_0 : wr.cell? ⟨gb173, 0, none⟩ = some (.int .i64 a0_0) := cl BK173.out 0 rfl
          have hcz61_1 : wr.cell? ⟨gb173, 1, none⟩ = some (.int .i64 a0_1) := cl BK173.out 1 rfl
          have hcz61_2 : wr.cell? ⟨gb173, 2, none⟩ = some (.int .i64 a0_2) := cl BK173.out 2 rfl
          have hcz61_3 : wr.cell? ⟨gb173, 3, none⟩ = some (.slice A0_3 l0_3.length c0_3) := cl BK173.out 3 rfl
          have hcz61_4 : wr.cell? ⟨gb173, 4, none⟩ = some (.slice A0_4 l0_4.length c0_4) := cl BK173.out 4 rfl
          have hcz61_5 : wr.cell? ⟨gb173, 5, none⟩ = some (.int .i64 a0_5) := cl BK173.out 5 rfl
          have hcz61_6 : wr.cell? ⟨gb173, 6, none⟩ = some (.int .i64 a0_6) := cl BK173.out 6 rfl
          have hfz61_0 := fz BK173.out 0
          have hfz61_1 := fz BK173.out 1
          have hfz61_2 := fz BK173.out 2
          have hfz61_3 := fz BK173.out 3
          have hfz61_4 := fz BK173.out 4
          have hfz61_5 := fz BK173.out 5
          have hfz61_6 := fz BK173.out 6
          have p180 : 0 ≤ (x3_2 : Int) := of_decide_eq_true (by first | (with_reducible assumption) | assumption)
          have q180 : x3_2 < (l0_4.length : Int) := of_decide_eq_true (by first | (with_reducible assumption) | assumption)
          obtain ⟨ad180, e180, hx180_0, hx180_1, hx180_2⟩ := at_T97 HR0_4.out x3_2 p180 q180
          cases e180
          replace hx180_0 := tc HB.out hx180_0
          replace hx180_1 := tc HB.out hx180_1
          replace hx180_2 := tc HB.out hx180_2
          replace p180 := eq_true p180
          replace q180 := eq_true q180
          try go_wp2_with (first | ((with_reducible refine gate_dst (N := 4) rfl ?_); (try (refine gate_guard (by rfl) ?_; dsimp only)); refine box_event ?hg (N := 4) ?hd (cs := #[.int .i64 0, .int .i64 0, .int .i64 0]) (t := 97) ?hr ?_; (case hd => rfl); (case hg => rfl); (case hr => first | (go_simp; done) | (go_simp; rfl)); intro gb181 hg w62 hbox hb; have n0_ := Aside0.mk (blk_below (g := gb173) (o := .cells #[.int .i64 a0_0, .int .i64 a0_1, .int .i64 a0_2, .slice A0_3 l0_3.length c0_3, .slice (some ad180) l0_4.length c0_4, .int .i64 a0_5, .int .i64 a0_6] 44 (0, 0)) (by (with_reducible repeat (first | refine blk_drewN ?_ _ | refine blk_drew ?_ | refine blk_alloc ?_ _)); exact BK173.out) hb); have n1_ := Aside0.mk (below_step (by repeat (first | (with_reducible first | exact HB.out | apply ba | apply bn | apply bd | refine bt ?_ GE173.out) | exact HB.out)) hb); have n2_ := Aside0.mk (hbox); have n3_ := Aside0.mk ((by rw [hg]; exact (below_size (by repeat (first | (with_reducible first | exact HB.out | apply ba | apply bn | apply bd | refine bt ?_ GE173.out) | exact HB.out))) : w.heap.size ≤ gb181)); have n4_ := Aside0.mk ((by rw [hg]; exact (below_size (by repeat (first | (with_reducible first | exact HB.out | apply ba | apply bn | apply bd | refine bt ?_ GE173.out) | exact HB.out))) : w.heap.size ≤ gb181)); have n5_ := Aside0.mk ((by rw [hg]; exact Nat.ne_of_lt (blk_lt (g := gb173) (o := .cells #[.int .i64 a0_0, .int .i64 a0_1, .int .i64 a0_2, .slice A0_3 l0_3.length c0_3, .slice (some ad180) l0_4.length c0_4, .int .i64 a0_5, .int .i64 a0_6] 44 (0, 0)) (by (with_reducible repeat (first | refine blk_drewN ?_ _ | refine blk_drew ?_ | refine blk_alloc ?_ _)); exact BK173.out)) : gb173 ≠ gb181)); have n6_ := Aside0.mk ((by rw [hg]; exact Nat.ne_of_gt (blk_lt (g := gb173) (o := .cells #[.int .i64 a0_0, .int .i64 a0_1, .int .i64 a0_2, .slice A0_3 l0_3.length c0_3, .slice (some ad180) l0_4.length c0_4, .int .i64 a0_5, .int .i64 a0_6] 44 (0, 0)) (by (with_reducible repeat (first | refine blk_drewN ?_ _ | refine blk_drew ?_ | refine blk_alloc ?_ _)); exact BK173.out)) : gb181 ≠ gb173)); clear BK173; clear HB; have BK173 := n0_; have HB := n1_; have BK181 := n2_; have GW181 := n3_; have GE181 := n4_; have NB173_181 := n5_; have NB181_173 := n6_; clear n0_ n1_ n2_ n3_ n4_ n5_ n6_; clear hb hbox hg; have hnb63 := NB181_173.out; have hnc63 := NB173_181.out; have hcz64_0 : w62.cell? ⟨gb181, 0, none⟩ = some (.int .i64 0) := cl BK181.out 0 rfl; have hcz64_1 : w62.cell? ⟨gb181, 1, none⟩ = some (.int .i64 0) := cl BK181.out 1 rfl; have hcz64_2 : w62.cell? ⟨gb181, 2, none⟩ = some (.int .i64 0) := cl BK181.out 2 rfl; have hfz64_0 := fz BK181.out 0; have hfz64_1 := fz BK181.out 1; have hfz64_2 := fz BK181.out 2))
          have n0_ : Aside0 ((((w62.setCell ⟨gb181, 0, none⟩ (.int .i64 ((rd_T97 l0_4 x3_2).f0))).setCell ⟨gb181, 1, none⟩ (.int .i64 ((rd_T97 l0_4 x3_2).f1))).setCell ⟨gb181, 2, none⟩ (.int .i64 ((rd_T97 l0_4 x3_2).f2))).heap[gb173]? = some (.cells #[.int .i64 a0_0, .int .i64 a0_1, .int .i64 a0_2, .slice A0_3 l0_3.length c0_3, .slice (some ad180) l0_4.length c0_4, .int .i64 a0_5, .int .i64 a0_6] 44 (0, 0))) := ⟨by (with_reducible repeat (first | refine blk_drewN ?_ _ | refine blk_drew ?_ | refine blk_alloc ?_ _)); refine blk_far ?_ NB173_181.out _; (with_reducible repeat (first | refine blk_drewN ?_ _ | refine blk_drew ?_ | refine blk_alloc ?_ _)); refine blk_far ?_ NB173_181.out _; (with_reducible repeat (first | refine blk_drewN ?_ _ | refine blk_drew ?_ | refine blk_alloc ?_ _)); refine blk_far ?_ NB173_181.out _; (with_reducible repeat (first | refine blk_drewN ?_ _ | refine blk_drew ?_ | refine blk_alloc ?_ _)); exact BK173.out⟩
          have n1_ : Aside0 ((((w62.setCell ⟨gb181, 0, none⟩ (.int .i64 ((rd_T97 l0_4 x3_2).f0))).setCell ⟨gb181, 1, none⟩ (.int .i64 ((rd_T97 l0_4 x3_2).f1))).setCell ⟨gb181, 2, none⟩ (.int .i64 ((rd_T97 l0_4 x3_2).f2))).heap[gb181]? = some (.cells #[.int .i64 ((rd_T97 l0_4 x3_2).f0), .int .i64 ((rd_T97 l0_4 x3_2).f1), .int .i64 ((rd_T97 l0_4 x3_2).f2)] 97 (0, 0))) := ⟨by (with_reducible repeat (first | refine blk_drewN ?_ _ | refine blk_drew ?_ | refine blk_alloc ?_ _)); refine blk_put (cs := #[.int .i64 ((rd_T97 l0_4 x3_2).f0), .int .i64 ((rd_T97 l0_4 x3_2).f1), .int .i64 0]) ?_ 2 _ rfl; (with_reducible repeat (first | refine blk_drewN ?_ _ | refine blk_drew ?_ | refine blk_alloc ?_ _)); refine blk_put (cs := #[.int .i64 ((rd_T97 l0_4 x3_2).f0), .int .i64 0, .int .i64 0]) ?_ 1 _ rfl; (with_reducible repeat (first | refine blk_drewN ?_ _ | refine blk_drew ?_ | refine blk_alloc ?_ _)); refine blk_put (cs := #[.int .i64 0, .int .i64 0, .int .i64 0]) ?_ 0 _ rfl; (with_reducible repeat (first | refine blk_drewN ?_ _ | refine blk_drew ?_ | refine blk_alloc ?_ _)); exact BK181.out⟩
          have n2_ : Aside0 (Below w.heap.size w (((w62.setCell ⟨gb181, 0, none⟩ (.int .i64 ((rd_T97 l0_4 x3_2).f0))).setCell ⟨gb181, 1, none⟩ (.int .i64 ((rd_T97 l0_4 x3_2).f1))).setCell ⟨gb181, 2, none⟩ (.int .i64 ((rd_T97 l0_4 x3_2).f2)))) := ⟨by repeat (first | (with_reducible first | exact HB.out | apply ba | apply bn | apply bd | refine bt ?_ GE173.out | refine bt ?_ GE181.out) | exact HB.out)⟩
          (try clear BK173)
          (try clear BK181)
          (try clear HB)
          generalize (((w62.setCell ⟨gb181, 0, none⟩ (.int .i64 ((rd_T97 l0_4 x3_2).f0))).setCell ⟨gb181, 1, none⟩ (.int .i64 ((rd_T97 l0_4 x3_2).f1))).setCell ⟨gb181, 2, none⟩ (.int .i64 ((rd_T97 l0_4 x3_2).f2))) = w65 at n0_ n1_ n2_ ⊢
          have BK173 := n0_
          have BK181 := n1_
          have HB := n2_
          clear n0_ n1_ n2_
          have n0_ := Aside0.mk (blk_drew BK173.out)
          have n1_ := Aside0.mk (blk_drew BK181.out)
          have n2_ := Aside0.mk (below_drew1 HB.out)
          clear BK173
          clear BK181
          clear HB
          have BK173 := n0_
          have BK181 := n1_
          have HB := n2_
          clear n0_ n1_ n2_
          refine start_ (n := 32) (S := fun w' => w'.cell? ⟨gb181, 0, none⟩ = some (.int .i64 ((rd_T97 l0_4 x3_2).f0)) ∧ w'.cell? ⟨gb181, 1, none⟩ = some (.int .i64 ((rd_T97 l0_4 x3_2).f1)) ∧ w'.cell? ⟨gb181, 2, none⟩ = some (.int .i64 ((rd_T97 l0_4 x3_2).f2))) (ds := []) #[false, false, false, false, false, false, false, false, false, false, false, false, false, false, false, false, false, false, false, false, false, false, false, false, false, false, false, false, false, false, false, false] (by kernel_rfl) rfl rfl ⟨cl BK181.out 0 rfl, cl BK181.out 1 rfl, cl BK181.out 2 rfl⟩ (fun hHeld => ?_); refine with_tabW spec_PlanOk.tab7 spec_PlanOk.bits7 (fun HT_ HW_ => ?_)
          generalize w65.drew = w66 at BK173 BK181 HB hHeld ⊢
          refine pa_ 0 (some 47) (any_of HT_.out (by kernel_rfl)) ?_
          refine take_ (i := 1) (N := some 48) (v := ?_) (a' := ?_) #[true, true, false, false, false, false, false, false, false, false, false, false, false, false, false, false, false, false, false, false, false, false, false, false, false, false, false, false, false, false, false, false] rfl rfl (take_ofW HT_.out HW_.out (by kernel_rfl)) (fun _ _ _ h => h) (Or.inl ⟨by rfl, ?_⟩) hHeld ?_ ?_
          rotate_left
          ·rintro w' ⟨s0, s1, s2⟩
           go_simp
           with_reducible rfl
          rotate_left
          ·simp only [Act.put, List.setIfInBounds_toArray, List.set_cons_zero, List.set_cons_succ, i64_w, i32_w]
           rfl
          refine one_ (i := 2) (N := some 49) #[true, true, true, false, false, false, false, false, false, false, false, false, false, false, false, false, false, false, false, false, false, false, false, false, false, false, false, false, false, false, false, false] rfl rfl (one_of HT_.out (by kernel_rfl)) (by decide) (fun K hK => ?_)
          refine goes_ Try.func49 (by kernel_rfl) rfl #[.int .i64 ((rd_T97 l0_4 x3_2).f0), .int .i64 0, .int .i64 3] (by rfl) rfl rfl (by (try simp only [List.map_toArray, List.map_cons, List.map_nil]); first | done | rfl | (simp only [List.length_drop, List.length_take]; rfl)) ?_
          with_reducible refine (spec_l6In.calls ((rd_T97 l0_4 x3_2).f0) 0 3 true _ A26.out).mono ?_
          rintro e w' ⟨rfl, ⟨nd, rfl⟩⟩
          refine ⟨_, rfl, ?_⟩
          refine hK.out _ _ ⟨cl BK181.out 0 rfl, cl BK181.out 1 rfl, cl BK181.out 2 rfl⟩ (fun hHeld => ?_)
          clear hK K
          refine norm_ (a' := ?_) ?_ ?_
          rotate_left
          ·show Act.put _ (some 49) _ = _
           simp only [Act.put, List.setIfInBounds_toArray, List.set_cons_zero, List.set_cons_succ, i64_w, i32_w]
           rfl
          refine pa_ 3 (some 50) (any_of HT_.out (by kernel_rfl)) ?_
          refine pa_ 4 (some 51) (any_of HT_.out (by kernel_rfl)) ?_
          refine pa_ 5 (some 52) (any_of HT_.out (by kernel_rfl)) ?_
          refine take_ (i := 6) (N := some 53) (v := ?_) (a' := ?_) #[true, true, true, true, true, true, true, false, false, false, false, false, false, false, false, false, false, false, false, false, false, false, false, false, false, false, false, false, false, false, false, false] rfl rfl (take_ofW HT_.out HW_.out (by kernel_rfl)) (fun _ _ _ h => h) (Or.inl ⟨by rfl, ?_⟩) hHeld ?_ ?_
          rotate_left
          ·rintro w' ⟨s0, s1, s2⟩
           go_simp
           with_reducible rfl
          rotate_left
          ·simp only [Act.put, List.setIfInBounds_toArray, List.set_cons_zero, List.set_cons_succ, i64_w, i32_w]
           rfl
          refine one_ (i := 7) (N := some 54) #[true, true, true, true, true, true, true, true, false, false, false, false, false, false, false, false, false, false, false, false, false, false, false, false, false, false, false, false, false, false, false, false] rfl rfl (one_of HT_.out (by kernel_rfl)) (by decide) (fun K hK => ?_)
          refine goes_ Try.func49 (by kernel_rfl) rfl #[.int .i64 ((rd_T97 l0_4 x3_2).f1), .int .i64 1, .int .i64 9999] (by rfl) rfl rfl (by (try simp only [List.map_toArray, List.map_cons, List.map_nil]); first | done | rfl | (simp only [List.length_drop, List.length_take]; rfl)) ?_
          with_reducible refine (spec_l6In.calls ((rd_T97 l0_4 x3_2).f1) 1 9999 false _ A28.out).mono ?_
          rintro e w' ⟨rfl, ⟨nd, rfl⟩⟩
          refine ⟨_, rfl, ?_⟩
          refine hK.out _ _ ⟨cl BK181.out 0 rfl, cl BK181.out 1 rfl, cl BK181.out 2 rfl⟩ (fun hHeld => ?_)
          clear hK K
          refine norm_ (a' := ?_) ?_ ?_
          rotate_left
          ·show Act.put _ (some 54) _ = _
           simp only [Act.put, List.setIfInBounds_toArray, List.set_cons_zero, List.set_cons_succ, i64_w, i32_w]
           rfl
          refine pa_ 8 (some 55) (any_of HT_.out (by kernel_rfl)) ?_
          refine pa_ 9 (some 56) (any_of HT_.out (by kernel_rfl)) ?_
          refine pa_ 10 (some 57) (any_of HT_.out (by kernel_rfl)) ?_
          refine pu_ 11 (some 58) (any_of HT_.out (by kernel_rfl)) ?_
          refine pu_ 12 (some 59) (any_of HT_.out (by kernel_rfl)) ?_
          refine pu_ 13 (some 60) (any_of HT_.out (by kernel_rfl)) ?_
          refine pu_ 14 (some 61) (any_of HT_.out (by kernel_rfl)) ?_
          refine pa_ 15 (some 62) (any_of HT_.out (by kernel_rfl)) ?_
          refine pa_ 16 (some 63) (any_of HT_.out (by kernel_rfl)) ?_
          refine pu_ 17 (some 64) (any_of HT_.out (by kernel_rfl)) ?_
          refine pu_ 18 (some 65) (any_of HT_.out (by kernel_rfl)) ?_
          refine pu_ 19 (some 66) (any_of HT_.out (by kernel_rfl)) ?_
          refine pu_ 20 (some 67) (any_of HT_.out (by kernel_rfl)) ?_
          refine pu_ 21 (some 68) (any_of HT_.out (by kernel_rfl)) ?_
          refine pu_ 22 (some 69) (any_of HT_.out (by kernel_rfl)) ?_
          refine pu_ 23 (some 70) (any_of HT_.out (by kernel_rfl)) ?_
          refine pu_ 24 (some 71) (any_of HT_.out (by kernel_rfl)) ?_
          refine pu_ 25 (some 72) (any_of HT_.out (by kernel_rfl)) ?_
          refine pu_ 26 (some 73) (any_of HT_.out (by kernel_rfl)) ?_
          refine pu_ 27 (some 74) (any_of HT_.out (by kernel_rfl)) ?_
          refine pu_ 28 (some 75) (any_of HT_.out (by kernel_rfl)) ?_
          refine pu_ 29 (some 76) (any_of HT_.out (by kernel_rfl)) ?_
          refine pu_ 30 (some 77) (any_of HT_.out (by kernel_rfl)) ?_
          refine pa_ 31 (some 78) (any_of HT_.out (by kernel_rfl)) ?_
          refine done_ (done_of HT_.out (by kernel_rfl)) ?_
          try go_wp2
          go_ret
          exact ⟨by first | rfl | (simp [errW_none, errW_some] <;> rfl) | (simp [*, errW_none, errW_some] <;> rfl), by repeat (first | (with_reducible first | exact HB.out | apply ba | apply bn | apply bd | refine bt ?_ GE173.out | refine bt ?_ GE181.out) | exact HB.out)⟩
        ·replace c27 := Bool.eq_false_iff.mpr c27
         subst c27
         have H1 : (some false) = some r := by rw [if_neg (show ¬ (false = true) by decide)] at H; exact H
         clear H
         have H := H1
         clear H1
         obtain rfl := Option.some.inj H
         have hcz67_0 : wr.cell? ⟨gb173, 0, none⟩ = some (.int .i64 a0_0) := cl BK173.out 0 rfl
         have hcz67_1 : wr.cell? ⟨gb173, 1, none⟩ = some (.int .i64 a0_1) := cl BK173.out 1 rfl
         have hcz67_2 : wr.cell? ⟨gb173, 2, none⟩ = some (.int .i64 a0_2) := cl BK173.out 2 rfl
         have hcz67_3 : wr.cell? ⟨gb173, 3, none⟩ = some (.slice A0_3 l0_3.length c0_3) := cl BK173.out 3 rfl
         have hcz67_4 : wr.cell? ⟨gb173, 4, none⟩ = some (.slice A0_4 l0_4.length c0_4) := cl BK173.out 4 rfl
         have hcz67_5 : wr.cell? ⟨gb173, 5, none⟩ = some (.int .i64 a0_5) := cl BK173.out 5 rfl
         have hcz67_6 : wr.cell? ⟨gb173, 6, none⟩ = some (.int .i64 a0_6) := cl BK173.out 6 rfl
         have hfz67_0 := fz BK173.out 0
         have hfz67_1 := fz BK173.out 1
         have hfz67_2 := fz BK173.out 2
         have hfz67_3 := fz BK173.out 3
         have hfz67_4 := fz BK173.out 4
         have hfz67_5 := fz BK173.out 5
         have hfz67_6 := fz BK173.out 6
         have p180 : 0 ≤ (x3_2 : Int) := of_decide_eq_true (by first | (with_reducible assumption) | assumption)
         have q180 : x3_2 < (l0_4.length : Int) := of_decide_eq_true (by first | (with_reducible assumption) | assumption)
         obtain ⟨ad180, e180, hx180_0, hx180_1, hx180_2⟩ := at_T97 HR0_4.out x3_2 p180 q180
         cases e180
         replace hx180_0 := tc HB.out hx180_0
         replace hx180_1 := tc HB.out hx180_1
         replace hx180_2 := tc HB.out hx180_2
         replace p180 := eq_true p180
         replace q180 := eq_true q180
         try go_wp2_with (first | ((with_reducible refine gate_dst (N := 4) rfl ?_); (try (refine gate_guard (by rfl) ?_; dsimp only)); refine box_event ?hg (N := 4) ?hd (cs := #[.int .i64 0, .int .i64 0, .int .i64 0]) (t := 97) ?hr ?_; (case hd => rfl); (case hg => rfl); (case hr => first | (go_simp; done) | (go_simp; rfl)); intro gb181 hg w68 hbox hb; have n0_ := Aside0.mk (blk_below (g := gb173) (o := .cells #[.int .i64 a0_0, .int .i64 a0_1, .int .i64 a0_2, .slice A0_3 l0_3.length c0_3, .slice (some ad180) l0_4.length c0_4, .int .i64 a0_5, .int .i64 a0_6] 44 (0, 0)) (by (with_reducible repeat (first | refine blk_drewN ?_ _ | refine blk_drew ?_ | refine blk_alloc ?_ _)); exact BK173.out) hb); have n1_ := Aside0.mk (below_step (by repeat (first | (with_reducible first | exact HB.out | apply ba | apply bn | apply bd | refine bt ?_ GE173.out) | exact HB.out)) hb); have n2_ := Aside0.mk (hbox); have n3_ := Aside0.mk ((by rw [hg]; exact (below_size (by repeat (first | (with_reducible first | exact HB.out | apply ba | apply bn | apply bd | refine bt ?_ GE173.out) | exact HB.out))) : w.heap.size ≤ gb181)); have n4_ := Aside0.mk ((by rw [hg]; exact (below_size (by repeat (first | (with_reducible first | exact HB.out | apply ba | apply bn | apply bd | refine bt ?_ GE173.out) | exact HB.out))) : w.heap.size ≤ gb181)); have n5_ := Aside0.mk ((by rw [hg]; exact Nat.ne_of_lt (blk_lt (g := gb173) (o := .cells #[.int .i64 a0_0, .int .i64 a0_1, .int .i64 a0_2, .slice A0_3 l0_3.length c0_3, .slice (some ad180) l0_4.length c0_4, .int .i64 a0_5, .int .i64 a0_6] 44 (0, 0)) (by (with_reducible repeat (first | refine blk_drewN ?_ _ | refine blk_drew ?_ | refine blk_alloc ?_ _)); exact BK173.out)) : gb173 ≠ gb181)); have n6_ := Aside0.mk ((by rw [hg]; exact Nat.ne_of_gt (blk_lt (g := gb173) (o := .cells #[.int .i64 a0_0, .int .i64 a0_1, .int .i64 a0_2, .slice A0_3 l0_3.length c0_3, .slice (some ad180) l0_4.length c0_4, .int .i64 a0_5, .int .i64 a0_6] 44 (0, 0)) (by (with_reducible repeat (first | refine blk_drewN ?_ _ | refine blk_drew ?_ | refine blk_alloc ?_ _)); exact BK173.out)) : gb181 ≠ gb173)); clear BK173; clear HB; have BK173 := n0_; have HB := n1_; have BK181 := n2_; have GW181 := n3_; have GE181 := n4_; have NB173_181 := n5_; have NB181_173 := n6_; clear n0_ n1_ n2_ n3_ n4_ n5_ n6_; clear hb hbox hg; have hnb69 := NB181_173.out; have hnc69 := NB173_181.out; have hcz70_0 : w68.cell? ⟨gb181, 0, none⟩ = some (.int .i64 0) := cl BK181.out 0 rfl; have hcz70_1 : w68.cell? ⟨gb181, 1, none⟩ = some (.int .i64 0) := cl BK181.out 1 rfl; have hcz70_2 : w68.cell? ⟨gb181, 2, none⟩ = some (.int .i64 0) := cl BK181.out 2 rfl; have hfz70_0 := fz BK181.out 0; have hfz70_1 := fz BK181.out 1; have hfz70_2 := fz BK181.out 2))
         have n0_ : Aside0 ((((w68.setCell ⟨gb181, 0, none⟩ (.int .i64 ((rd_T97 l0_4 x3_2).f0))).setCell ⟨gb181, 1, none⟩ (.int .i64 ((rd_T97 l0_4 x3_2).f1))).setCell ⟨gb181, 2, none⟩ (.int .i64 ((rd_T97 l0_4 x3_2).f2))).heap[gb173]? = some (.cells #[.int .i64 a0_0, .int .i64 a0_1, .int .i64 a0_2, .slice A0_3 l0_3.length c0_3, .slice (some ad180) l0_4.length c0_4, .int .i64 a0_5, .int .i64 a0_6] 44 (0, 0))) := ⟨by (with_reducible repeat (first | refine blk_drewN ?_ _ | refine blk_drew ?_ | refine blk_alloc ?_ _)); refine blk_far ?_ NB173_181.out _; (with_reducible repeat (first | refine blk_drewN ?_ _ | refine blk_drew ?_ | refine blk_alloc ?_ _)); refine blk_far ?_ NB173_181.out _; (with_reducible repeat (first | refine blk_drewN ?_ _ | refine blk_drew ?_ | refine blk_alloc ?_ _)); refine blk_far ?_ NB173_181.out _; (with_reducible repeat (first | refine blk_drewN ?_ _ | refine blk_drew ?_ | refine blk_alloc ?_ _)); exact BK173.out⟩
         have n1_ : Aside0 ((((w68.setCell ⟨gb181, 0, none⟩ (.int .i64 ((rd_T97 l0_4 x3_2).f0))).setCell ⟨gb181, 1, none⟩ (.int .i64 ((rd_T97 l0_4 x3_2).f1))).setCell ⟨gb181, 2, none⟩ (.int .i64 ((rd_T97 l0_4 x3_2).f2))).heap[gb181]? = some (.cells #[.int .i64 ((rd_T97 l0_4 x3_2).f0), .int .i64 ((rd_T97 l0_4 x3_2).f1), .int .i64 ((rd_T97 l0_4 x3_2).f2)] 97 (0, 0))) := ⟨by (with_reducible repeat (first | refine blk_drewN ?_ _ | refine blk_drew ?_ | refine blk_alloc ?_ _)); refine blk_put (cs := #[.int .i64 ((rd_T97 l0_4 x3_2).f0), .int .i64 ((rd_T97 l0_4 x3_2).f1), .int .i64 0]) ?_ 2 _ rfl; (with_reducible repeat (first | refine blk_drewN ?_ _ | refine blk_drew ?_ | refine blk_alloc ?_ _)); refine blk_put (cs := #[.int .i64 ((rd_T97 l0_4 x3_2).f0), .int .i64 0, .int .i64 0]) ?_ 1 _ rfl; (with_reducible repeat (first | refine blk_drewN ?_ _ | refine blk_drew ?_ | refine blk_alloc ?_ _)); refine blk_put (cs := #[.int .i64 0, .int .i64 0, .int .i64 0]) ?_ 0 _ rfl; (with_reducible repeat (first | refine blk_drewN ?_ _ | refine blk_drew ?_ | refine blk_alloc ?_ _)); exact BK181.out⟩
         have n2_ : Aside0 (Below w.heap.size w (((w68.setCell ⟨gb181, 0, none⟩ (.int .i64 ((rd_T97 l0_4 x3_2).f0))).setCell ⟨gb181, 1, none⟩ (.int .i64 ((rd_T97 l0_4 x3_2).f1))).setCell ⟨gb181, 2, none⟩ (.int .i64 ((rd_T97 l0_4 x3_2).f2)))) := ⟨by repeat (first | (with_reducible first | exact HB.out | apply ba | apply bn | apply bd | refine bt ?_ GE173.out | refine bt ?_ GE181.out) | exact HB.out)⟩
         (try clear BK173)
         (try clear BK181)
         (try clear HB)
         generalize (((w68.setCell ⟨gb181, 0, none⟩ (.int .i64 ((rd_T97 l0_4 x3_2).f0))).setCell ⟨gb181, 1, none⟩ (.int .i64 ((rd_T97 l0_4 x3_2).f1))).setCell ⟨gb181, 2, none⟩ (.int .i64 ((rd_T97 l0_4 x3_2).f2))) = w71 at n0_ n1_ n2_ ⊢
         have BK173 := n0_
         have BK181 := n1_
         have HB := n2_
         clear n0_ n1_ n2_
         have n0_ := Aside0.mk (blk_drew BK173.out)
         have n1_ := Aside0.mk (blk_drew BK181.out)
         have n2_ := Aside0.mk (below_drew1 HB.out)
         clear BK173
         clear BK181
         clear HB
         have BK173 := n0_
         have BK181 := n1_
         have HB := n2_
         clear n0_ n1_ n2_
         refine start_ (n := 32) (S := fun w' => w'.cell? ⟨gb181, 0, none⟩ = some (.int .i64 ((rd_T97 l0_4 x3_2).f0)) ∧ w'.cell? ⟨gb181, 1, none⟩ = some (.int .i64 ((rd_T97 l0_4 x3_2).f1)) ∧ w'.cell? ⟨gb181, 2, none⟩ = some (.int .i64 ((rd_T97 l0_4 x3_2).f2))) (ds := []) #[false, false, false, false, false, false, false, false, false, false, false, false, false, false, false, false, false, false, false, false, false, false, false, false, false, false, false, false, false, false, false, false] (by kernel_rfl) rfl rfl ⟨cl BK181.out 0 rfl, cl BK181.out 1 rfl, cl BK181.out 2 rfl⟩ (fun hHeld => ?_); refine with_tabW spec_PlanOk.tab7 spec_PlanOk.bits7 (fun HT_ HW_ => ?_)
         generalize w71.drew = w72 at BK173 BK181 HB hHeld ⊢
         refine pa_ 0 (some 47) (any_of HT_.out (by kernel_rfl)) ?_
         refine take_ (i := 1) (N := some 48) (v := ?_) (a' := ?_) #[true, true, false, false, false, false, false, false, false, false, false, false, false, false, false, false, false, false, false, false, false, false, false, false, false, false, false, false, false, false, false, false] rfl rfl (take_ofW HT_.out HW_.out (by kernel_rfl)) (fun _ _ _ h => h) (Or.inl ⟨by rfl, ?_⟩) hHeld ?_ ?_
         rotate_left
         ·rintro w' ⟨s0, s1, s2⟩
          go_simp
          with_reducible rfl
         rotate_left
         ·simp only [Act.put, List.setIfInBounds_toArray, List.set_cons_zero, List.set_cons_succ, i64_w, i32_w]
          rfl
         refine one_ (i := 2) (N := some 49) #[true, true, true, false, false, false, false, false, false, false, false, false, false, false, false, false, false, false, false, false, false, false, false, false, false, false, false, false, false, false, false, false] rfl rfl (one_of HT_.out (by kernel_rfl)) (by decide) (fun K hK => ?_)
         refine goes_ Try.func49 (by kernel_rfl) rfl #[.int .i64 ((rd_T97 l0_4 x3_2).f0), .int .i64 0, .int .i64 3] (by rfl) rfl rfl (by (try simp only [List.map_toArray, List.map_cons, List.map_nil]); first | done | rfl | (simp only [List.length_drop, List.length_take]; rfl)) ?_
         with_reducible refine (spec_l6In.calls ((rd_T97 l0_4 x3_2).f0) 0 3 false _ A26.out).mono ?_
         rintro e w' ⟨rfl, ⟨nd, rfl⟩⟩
         refine ⟨_, rfl, ?_⟩
         refine hK.out _ _ ⟨cl BK181.out 0 rfl, cl BK181.out 1 rfl, cl BK181.out 2 rfl⟩ (fun hHeld => ?_)
         clear hK K
         refine norm_ (a' := ?_) ?_ ?_
         rotate_left
         ·show Act.put _ (some 49) _ = _
          simp only [Act.put, List.setIfInBounds_toArray, List.set_cons_zero, List.set_cons_succ, i64_w, i32_w]
          rfl
         refine pa_ 3 (some 50) (any_of HT_.out (by kernel_rfl)) ?_
         refine pa_ 4 (some 51) (any_of HT_.out (by kernel_rfl)) ?_
         refine pu_ 5 (some 52) (any_of HT_.out (by kernel_rfl)) ?_
         refine pu_ 6 (some 53) (any_of HT_.out (by kernel_rfl)) ?_
         refine pu_ 7 (some 54) (any_of HT_.out (by kernel_rfl)) ?_
         refine pu_ 8 (some 55) (any_of HT_.out (by kernel_rfl)) ?_
         refine pa_ 9 (some 56) (any_of HT_.out (by kernel_rfl)) ?_
         refine pa_ 10 (some 57) (any_of HT_.out (by kernel_rfl)) ?_
         refine pu_ 11 (some 58) (any_of HT_.out (by kernel_rfl)) ?_
         refine pu_ 12 (some 59) (any_of HT_.out (by kernel_rfl)) ?_
         refine pu_ 13 (some 60) (any_of HT_.out (by kernel_rfl)) ?_
         refine pu_ 14 (some 61) (any_of HT_.out (by kernel_rfl)) ?_
         refine pa_ 15 (some 62) (any_of HT_.out (by kernel_rfl)) ?_
         refine pa_ 16 (some 63) (any_of HT_.out (by kernel_rfl)) ?_
         refine pu_ 17 (some 64) (any_of HT_.out (by kernel_rfl)) ?_
         refine pu_ 18 (some 65) (any_of HT_.out (by kernel_rfl)) ?_
         refine pu_ 19 (some 66) (any_of HT_.out (by kernel_rfl)) ?_
         refine pu_ 20 (some 67) (any_of HT_.out (by kernel_rfl)) ?_
         refine pu_ 21 (some 68) (any_of HT_.out (by kernel_rfl)) ?_
         refine pu_ 22 (some 69) (any_of HT_.out (by kernel_rfl)) ?_
         refine pu_ 23 (some 70) (any_of HT_.out (by kernel_rfl)) ?_
         refine pu_ 24 (some 71) (any_of HT_.out (by kernel_rfl)) ?_
         refine pu_ 25 (some 72) (any_of HT_.out (by kernel_rfl)) ?_
         refine pu_ 26 (some 73) (any_of HT_.out (by kernel_rfl)) ?_
         refine pu_ 27 (some 74) (any_of HT_.out (by kernel_rfl)) ?_
         refine pu_ 28 (some 75) (any_of HT_.out (by kernel_rfl)) ?_
         refine pu_ 29 (some 76) (any_of HT_.out (by kernel_rfl)) ?_
         refine pu_ 30 (some 77) (any_of HT_.out (by kernel_rfl)) ?_
         refine pa_ 31 (some 78) (any_of HT_.out (by kernel_rfl)) ?_
         refine done_ (done_of HT_.out (by kernel_rfl)) ?_
         try go_wp2
         go_ret
         exact ⟨by first | rfl | (simp [errW_none, errW_some] <;> rfl) | (simp [*, errW_none, errW_some] <;> rfl), by repeat (first | (with_reducible first | exact HB.out | apply ba | apply bn | apply bd | refine bt ?_ GE173.out | refine bt ?_ GE181.out) | exact HB.out)⟩
       ·rw [if_neg c25] at H
        exact absurd H (by simp)
      ·rw [if_neg c24] at H
       have c24b0 : decide (x3_2 < (l0_4.length : Int)) = false := decide_eq_false c24
       clear c24
       obtain rfl := Option.some.inj H
       have hcz73_0 : wr.cell? ⟨gb173, 0, none⟩ = some (.int .i64 a0_0) := cl BK173.out 0 rfl
       have hcz73_1 : wr.cell? ⟨gb173, 1, none⟩ = some (.int .i64 a0_1) := cl BK173.out 1 rfl
       have hcz73_2 : wr.cell? ⟨gb173, 2, none⟩ = some (.int .i64 a0_2) := cl BK173.out 2 rfl
       have hcz73_3 : wr.cell? ⟨gb173, 3, none⟩ = some (.slice A0_3 l0_3.length c0_3) := cl BK173.out 3 rfl
       have hcz73_4 : wr.cell? ⟨gb173, 4, none⟩ = some (.slice A0_4 l0_4.length c0_4) := cl BK173.out 4 rfl
       have hcz73_5 : wr.cell? ⟨gb173, 5, none⟩ = some (.int .i64 a0_5) := cl BK173.out 5 rfl
       have hcz73_6 : wr.cell? ⟨gb173, 6, none⟩ = some (.int .i64 a0_6) := cl BK173.out 6 rfl
       have hfz73_0 := fz BK173.out 0
       have hfz73_1 := fz BK173.out 1
       have hfz73_2 := fz BK173.out 2
       have hfz73_3 := fz BK173.out 3
       have hfz73_4 := fz BK173.out 4
       have hfz73_5 := fz BK173.out 5
       have hfz73_6 := fz BK173.out 6
       go_wp2
       go_ret
       exact ⟨by first | rfl | (simp [errW_none, errW_some] <;> rfl) | (simp [*, errW_none, errW_some] <;> rfl), by repeat (first | (with_reducible first | exact HB.out | apply ba | apply bn | apply bd | refine bt ?_ GE173.out) | exact HB.out)⟩

end Go.Proofs.Ytidhlpaoncneiaa.PFnExactPlanPast
