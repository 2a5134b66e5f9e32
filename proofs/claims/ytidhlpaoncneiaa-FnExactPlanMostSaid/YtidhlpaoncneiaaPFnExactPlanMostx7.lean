/- Printed by a program of this session over the kit's print, for function values too. Lean checks it. -/
import Derived.Test.YtidhlpaoncneiaaPFnExactPlanMostx0
import Derived.Test.YtidhlpaoncneiaaPFnExactPlanMostx1
import Derived.Test.YtidhlpaoncneiaaPFnExactPlanMostx2
import Derived.Test.YtidhlpaoncneiaaPFnExactPlanMostx5
import Derived.Test.YtidhlpaoncneiaaPFnExactPlanMostx6
namespace Go.Proofs.Ytidhlpaoncneiaa.PFnExactPlanMost
open Go.RowKit Go.Proofs.YtidhlpaoncneiaaH Go.Proofs.YtidhlpaoncneiaaW.PrintWords Go.Proofs.YtidhlpaoncneiaaW.PrintLast Go.Proofs.YtidhlpaoncneiaaW.PrintMore
attribute [local go_sem] max2_int min2_int max_two min_two max_three min_three max_four min_four   -- for this text's walks alone
set_option linter.unusedVariables false
set_option linter.unusedSimpArgs false

/-! ### bits_OnesCount: function 121 -/
def bits_OnesCount.f (a0 : Int) : Option (Int) := (bits_OnesCount64.f a0).bind fun t227 => (some t227)
set_option maxHeartbeats 8000000 in
set_option maxRecDepth 100000 in
theorem bits_OnesCount.calls (a0 : Int) (r : Int) (w : World) (h : bits_OnesCount.f a0 = some r) :
  Calls Try.prog 121 #[.int .u64 a0] w fun e w' => e = .returned (.int .i64 r) ∧ Drawn0 w w' := by
 have H : ((bits_OnesCount64.f a0).bind fun t227 => (some t227)) = some r := h
 clear h
 replace H := Option.bind_eq_some_iff.mp H
 obtain ⟨t227, A20, H⟩ := H
 replace H : (some t227) = some r := H
 have A2 := Aside0.mk A20
 clear A20
 obtain rfl := Option.some.inj H
 go_enter Try.func121, Try.ntmps121
 go_wp2_with (first | ((with_reducible refine gate_callee (f := 144) rfl ?_); refine goesL_ (some 7) rfl rfl Try.func144 (by kernel_rfl) rfl #[.int .u64 a0] rfl (by (try simp only [List.map_toArray, List.map_cons, List.map_nil]); first | done | rfl | (simp only [List.length_drop, List.length_take]; rfl)) ?_; (with_reducible refine (bits_OnesCount64.calls a0 t227 _ A2.out).mono ?_); rintro e w' ⟨rfl, ⟨nd, rfl⟩⟩; refine ⟨_, rfl, ?_⟩))
 go_ret
 exact ⟨by first | rfl | (simp; done) | (simp [*]; done), by repeat (first | exact Drawn0.refl _ | apply Drawn0.step)⟩

/-! ### impl_most: function 82 -/
def impl_most.f (a0 : Int) (a1 : Int) : Option (Bool) := (bits_OnesCount.f (IntKind.u64.wrap (Go.bits .and .i64 a0 a1))).bind fun t228 => ((bits_OnesCount.f (IntKind.u64.wrap (a1))).bind fun t229 => (some (decide ((wrap64 (2 * t228)) > t229))))
set_option maxHeartbeats 8000000 in
set_option maxRecDepth 100000 in
theorem impl_most.calls (a0 : Int) (a1 : Int) (r : Bool) (w : World) (h : impl_most.f a0 a1 = some r) :
  Calls Try.prog 82 #[.int .i64 a0, .int .i64 a1] w fun e w' => e = .returned (.bool r) ∧ Drawn0 w w' := by
 have H : ((bits_OnesCount.f (IntKind.u64.wrap (Go.bits .and .i64 a0 a1))).bind fun t228 => ((bits_OnesCount.f (IntKind.u64.wrap (a1))).bind fun t229 => (some (decide ((wrap64 (2 * t228)) > t229))))) = some r := h
 clear h
 replace H := Option.bind_eq_some_iff.mp H
 obtain ⟨t228, A30, H⟩ := H
 replace H : ((bits_OnesCount.f (IntKind.u64.wrap (a1))).bind fun t229 => (some (decide ((wrap64 (2 * t228)) > t229)))) = some r := H
 have A3 := Aside0.mk A30
 clear A30
 replace H := Option.bind_eq_some_iff.mp H
 obtain ⟨t229, A40, H⟩ := H
 replace H : (some (decide ((wrap64 (2 * t228)) > t229))) = some r := H
 have A4 := Aside0.mk A40
 clear A40
 obtain rfl := Option.some.inj H
 go_enter Try.func82, Try.ntmps82
 go_wp2_with (first | ((with_reducible refine gate_callee (f := 121) rfl ?_); refine goesL_ (some 9) rfl rfl Try.func121 (by kernel_rfl) rfl #[.int .u64 (IntKind.u64.wrap (Go.bits .and .i64 a0 a1))] rfl (by (try simp only [List.map_toArray, List.map_cons, List.map_nil]); first | done | rfl | (simp only [List.length_drop, List.length_take]; rfl)) ?_; (with_reducible refine (bits_OnesCount.calls (IntKind.u64.wrap (Go.bits .and .i64 a0 a1)) t228 _ A3.out).mono ?_); rintro e w' ⟨rfl, ⟨nd, rfl⟩⟩; refine ⟨_, rfl, ?_⟩) | ((with_reducible refine gate_callee (f := 121) rfl ?_); refine goesL_ (some 13) rfl rfl Try.func121 (by kernel_rfl) rfl #[.int .u64 (IntKind.u64.wrap (a1))] rfl (by (try simp only [List.map_toArray, List.map_cons, List.map_nil]); first | done | rfl | (simp only [List.length_drop, List.length_take]; rfl)) ?_; (with_reducible refine (bits_OnesCount.calls (IntKind.u64.wrap (a1)) t229 _ A4.out).mono ?_); rintro e w' ⟨rfl, ⟨nd, rfl⟩⟩; refine ⟨_, rfl, ?_⟩))
 go_ret
 exact ⟨by first | rfl | (simp; done) | (simp [*]; done), by repeat (first | exact Drawn0.refl _ | apply Drawn0.step)⟩

/-! ### impl_PlanMost: function 34 -/
def impl_PlanMost.f (k : Nat) (a0_0 : Int) (a0_1 : Int) (a0_2 : Int) (l0_3 : List (S123)) (l0_4 : List (S97)) (a0_5 : Int) (a0_6 : Int) (a1 : Int) : Option (Bool) := (impl_PlanOk.f k a0_0 a0_1 a0_2 l0_3 l0_4 a0_5 a0_6).bind fun t231 => (if t231 = true then ((impl_in.f a1 0 31).bind fun t232 => (if t232 = true then ((impl_most.f a1 a0_5).bind fun t233 => (if t233 = true then (if a0_6 = 0 then (some true) else ((impl_most.f a1 a0_6).bind fun t234 => (some t234))) else (some false))) else (some false))) else (some false))
theorem impl_PlanMost.mono : ∀ a0 a1 a2 a3 a4 a5 a6 a7 k, LeO (impl_PlanMost.f k a0 a1 a2 a3 a4 a5 a6 a7) (impl_PlanMost.f (k + 1) a0 a1 a2 a3 a4 a5 a6 a7) := by
 intro a0 a1 a2 a3 a4 a5 a6 a7 k
 unfold impl_PlanMost.f
 repeat' first
   | (with_reducible exact impl_PlanOk.mono _ _ _ _ _ _ _ _)
   | (with_reducible exact LeO.refl _)
   | (with_reducible exact LeO.none _)
   | (with_reducible refine LeO.ite ?_ ?_)
   | (with_reducible refine LeO.bind ?_ (fun _ => ?_))
   | exact impl_PlanOk.mono _ _ _ _ _ _ _ _
   | exact LeO.none _
   | refine LeO.ite ?_ ?_
   | refine LeO.bind ?_ (fun _ => ?_)
set_option maxHeartbeats 8000000 in
set_option maxRecDepth 100000 in
theorem impl_PlanMost.calls (k : Nat) (a0_0 : Int) (a0_1 : Int) (a0_2 : Int) (A0_3 : Option Addr) (c0_3 : Nat) (l0_3 : List (S123)) (A0_4 : Option Addr) (c0_4 : Nat) (l0_4 : List (S97)) (a0_5 : Int) (a0_6 : Int) (a1 : Int) (r : Bool) (w : World) (hr0_3 : Kd.C k123 w A0_3 l0_3.length l0_3) (hc0_3 : l0_3.length ≤ c0_3) (hr0_4 : Kd.C k97 w A0_4 l0_4.length l0_4) (hc0_4 : l0_4.length ≤ c0_4) (h : impl_PlanMost.f k a0_0 a0_1 a0_2 l0_3 l0_4 a0_5 a0_6 a1 = some r) :
  Calls Try.prog 34 #[.agg #[.int .i64 a0_0, .int .i64 a0_1, .int .i64 a0_2, .slice A0_3 l0_3.length c0_3, .slice A0_4 l0_4.length c0_4, .int .i64 a0_5, .int .i64 a0_6], .int .i64 a1] w fun e w' => e = .returned (.bool r) ∧ Below w.heap.size w w' := by
 have hu44 := Try.underlying44
 have HR0_3 := Aside0.mk hr0_3
 have HC0_3 := Aside0.mk hc0_3
 clear hr0_3 hc0_3
 have HR0_4 := Aside0.mk hr0_4
 have HC0_4 := Aside0.mk hc0_4
 clear hr0_4 hc0_4
 have HB := Aside0.mk (Below.refl w.heap.size w)
 have H : ((impl_PlanOk.f k a0_0 a0_1 a0_2 l0_3 l0_4 a0_5 a0_6).bind fun t231 => (if t231 = true then ((impl_in.f a1 0 31).bind fun t232 => (if t232 = true then ((impl_most.f a1 a0_5).bind fun t233 => (if t233 = true then (if a0_6 = 0 then (some true) else ((impl_most.f a1 a0_6).bind fun t234 => (some t234))) else (some false))) else (some false))) else (some false))) = some r := h
 clear h
 replace H := Option.bind_eq_some_iff.mp H
 obtain ⟨t231, A30, H⟩ := H
 replace H : (if t231 = true then ((impl_in.f a1 0 31).bind fun t232 => (if t232 = true then ((impl_most.f a1 a0_5).bind fun t233 => (if t233 = true then (if a0_6 = 0 then (some true) else ((impl_most.f a1 a0_6).bind fun t234 => (some t234))) else (some false))) else (some false))) else (some false)) = some r := H
 have A3 := Aside0.mk A30
 clear A30
 by_cases c4 : t231 = true
 ·subst c4
  have H1 : ((impl_in.f a1 0 31).bind fun t232 => (if t232 = true then ((impl_most.f a1 a0_5).bind fun t233 => (if t233 = true then (if a0_6 = 0 then (some true) else ((impl_most.f a1 a0_6).bind fun t234 => (some t234))) else (some false))) else (some false))) = some r := by rw [if_pos rfl] at H; exact H
  clear H
  have H := H1
  clear H1
  replace H := Option.bind_eq_some_iff.mp H
  obtain ⟨t232, A50, H⟩ := H
  replace H : (if t232 = true then ((impl_most.f a1 a0_5).bind fun t233 => (if t233 = true then (if a0_6 = 0 then (some true) else ((impl_most.f a1 a0_6).bind fun t234 => (some t234))) else (some false))) else (some false)) = some r := H
  have A5 := Aside0.mk A50
  clear A50
  by_cases c6 : t232 = true
  ·subst c6
   have H1 : ((impl_most.f a1 a0_5).bind fun t233 => (if t233 = true then (if a0_6 = 0 then (some true) else ((impl_most.f a1 a0_6).bind fun t234 => (some t234))) else (some false))) = some r := by rw [if_pos rfl] at H; exact H
   clear H
   have H := H1
   clear H1
   replace H := Option.bind_eq_some_iff.mp H
   obtain ⟨t233, A70, H⟩ := H
   replace H : (if t233 = true then (if a0_6 = 0 then (some true) else ((impl_most.f a1 a0_6).bind fun t234 => (some t234))) else (some false)) = some r := H
   have A7 := Aside0.mk A70
   clear A70
   by_cases c8 : t233 = true
   ·subst c8
    have H1 : (if a0_6 = 0 then (some true) else ((impl_most.f a1 a0_6).bind fun t234 => (some t234))) = some r := by rw [if_pos rfl] at H; exact H
    clear H
    have H := H1
    clear H1
    by_cases c9 : a0_6 = 0
    ·rw [if_pos c9] at H
     have c9b0 : (a0_6 == 0) = true := beq_iff_eq.mpr c9
     have c9b1 : (a0_6 != 0) = false := bne_eq_false_iff_eq.mpr c9
     clear c9
     obtain rfl := Option.some.inj H
     go_enter Try.func34, Try.ntmps34
     go_wp2_with (first | ((with_reducible refine gate_dst (N := 2) rfl ?_); refine box_event ?hg (N := 2) ?hd (cs := #[.int .i64 a0_0, .int .i64 a0_1, .int .i64 a0_2, .slice A0_3 l0_3.length c0_3, .slice A0_4 l0_4.length c0_4, .int .i64 a0_5, .int .i64 a0_6]) (t := 44) ?hr ?_; (case hd => rfl); (case hg => rfl); (case hr => first | (go_simp; done) | (go_simp; rfl)); intro gb230 hg w10 hbox hb; have n0_ := Aside0.mk (below_step (by repeat (first | (with_reducible first | exact HB.out | apply ba | apply bn | apply bd) | exact HB.out)) hb); have n1_ := Aside0.mk (hbox); have n2_ := Aside0.mk ((by rw [hg]; exact (below_size (by repeat (first | (with_reducible first | exact HB.out | apply ba | apply bn | apply bd) | exact HB.out))) : w.heap.size ≤ gb230)); have n3_ := Aside0.mk ((by rw [hg]; exact (below_size (by repeat (first | (with_reducible first | exact HB.out | apply ba | apply bn | apply bd) | exact HB.out))) : w.heap.size ≤ gb230)); clear HB; have HB := n0_; have BK230 := n1_; have GW230 := n2_; have GE230 := n3_; clear n0_ n1_ n2_ n3_; clear hb hbox hg; have hcz11_0 : w10.cell? ⟨gb230, 0, none⟩ = some (.int .i64 a0_0) := cl BK230.out 0 rfl; have hcz11_1 : w10.cell? ⟨gb230, 1, none⟩ = some (.int .i64 a0_1) := cl BK230.out 1 rfl; have hcz11_2 : w10.cell? ⟨gb230, 2, none⟩ = some (.int .i64 a0_2) := cl BK230.out 2 rfl; have hcz11_3 : w10.cell? ⟨gb230, 3, none⟩ = some (.slice A0_3 l0_3.length c0_3) := cl BK230.out 3 rfl; have hcz11_4 : w10.cell? ⟨gb230, 4, none⟩ = some (.slice A0_4 l0_4.length c0_4) := cl BK230.out 4 rfl; have hcz11_5 : w10.cell? ⟨gb230, 5, none⟩ = some (.int .i64 a0_5) := cl BK230.out 5 rfl; have hcz11_6 : w10.cell? ⟨gb230, 6, none⟩ = some (.int .i64 a0_6) := cl BK230.out 6 rfl; have hfz11_0 := fz BK230.out 0; have hfz11_1 := fz BK230.out 1; have hfz11_2 := fz BK230.out 2; have hfz11_3 := fz BK230.out 3; have hfz11_4 := fz BK230.out 4; have hfz11_5 := fz BK230.out 5; have hfz11_6 := fz BK230.out 6) | ((with_reducible refine gate_callee (f := 30) rfl ?_); refine goesL_ (some 6) rfl rfl Try.func30 (by kernel_rfl) rfl #[.agg #[.int .i64 a0_0, .int .i64 a0_1, .int .i64 a0_2, .slice A0_3 l0_3.length c0_3, .slice A0_4 l0_4.length c0_4, .int .i64 a0_5, .int .i64 a0_6]] rfl (by (try simp only [List.map_toArray, List.map_cons, List.map_nil]); first | done | rfl | (simp only [List.length_drop, List.length_take]; rfl)) ?_; (with_reducible refine (impl_PlanOk.calls k a0_0 a0_1 a0_2 _ _ l0_3 _ _ l0_4 a0_5 a0_6 true _ ?side1 ?side2 ?side3 ?side4 A3.out).mono ?_); (case side1 => repeat (first | exact (Kd.C_below HR0_3.out HB.out) | (with_reducible refine Kd.C_alloc ?_ _) | (with_reducible refine Kd.C_drewN ?_ _) | (with_reducible refine Kd.C_drew ?_))); (case side2 => exact HC0_3.out); (case side3 => repeat (first | exact (Kd.C_below HR0_4.out HB.out) | (with_reducible refine Kd.C_alloc ?_ _) | (with_reducible refine Kd.C_drewN ?_ _) | (with_reducible refine Kd.C_drew ?_))); (case side4 => exact HC0_4.out); rintro e w12 ⟨rfl, hb⟩; refine ⟨_, rfl, ?_⟩; have n0_ := Aside0.mk (blk_below (g := gb230) (o := .cells #[.int .i64 a0_0, .int .i64 a0_1, .int .i64 a0_2, .slice A0_3 l0_3.length c0_3, .slice A0_4 l0_4.length c0_4, .int .i64 a0_5, .int .i64 a0_6] 44 (0, 0)) (by (with_reducible repeat (first | refine blk_drewN ?_ _ | refine blk_drew ?_ | refine blk_alloc ?_ _)); exact BK230.out) hb); have n1_ := Aside0.mk (below_step (by repeat (first | (with_reducible first | exact HB.out | apply ba | apply bn | apply bd | refine bt ?_ GE230.out) | exact HB.out)) hb); clear BK230; clear HB; have BK230 := n0_; have HB := n1_; clear n0_ n1_; (try clear hb); (try clear hb2); (try clear hk); (try clear hi)) | (go_at_call 74; (with_reducible refine (impl_in.calls a1 0 31 true _ A5.out).mono ?_); rintro e w' ⟨rfl, ⟨nd, rfl⟩⟩; have hcz13_0 : w12.cell? ⟨gb230, 0, none⟩ = some (.int .i64 a0_0) := cl BK230.out 0 rfl; have hcz13_1 : w12.cell? ⟨gb230, 1, none⟩ = some (.int .i64 a0_1) := cl BK230.out 1 rfl; have hcz13_2 : w12.cell? ⟨gb230, 2, none⟩ = some (.int .i64 a0_2) := cl BK230.out 2 rfl; have hcz13_3 : w12.cell? ⟨gb230, 3, none⟩ = some (.slice A0_3 l0_3.length c0_3) := cl BK230.out 3 rfl; have hcz13_4 : w12.cell? ⟨gb230, 4, none⟩ = some (.slice A0_4 l0_4.length c0_4) := cl BK230.out 4 rfl; have hcz13_5 : w12.cell? ⟨gb230, 5, none⟩ = some (.int .i64 a0_5) := cl BK230.out 5 rfl; have hcz13_6 : w12.cell? ⟨gb230, 6, none⟩ = some (.int .i64 a0_6) := cl BK230.out 6 rfl; have hfz13_0 := fz BK230.out 0; have hfz13_1 := fz BK230.out 1; have hfz13_2 := fz BK230.out 2; have hfz13_3 := fz BK230.out 3; have hfz13_4 := fz BK230.out 4; have hfz13_5 := fz BK230.out 5; have hfz13_6 := fz BK230.out 6) | (go_at_call 82; (with_reducible refine (impl_most.calls a1 a0_5 true _ A7.out).mono ?_); rintro e w' ⟨rfl, ⟨nd, rfl⟩⟩))
     go_ret
     exact ⟨by first | rfl | (simp [errW_none, errW_some] <;> rfl) | (simp [*, errW_none, errW_some] <;> rfl), by repeat (first | (with_reducible first | exact HB.out | apply ba | apply bn | apply bd | refine bt ?_ GE230.out) | exact HB.out)⟩
    ·rw [if_neg c9] at H
     have c9b0 : (a0_6 == 0) = false := beq_eq_false_iff_ne.mpr c9
     have c9b1 : (a0_6 != 0) = true := bne_iff_ne.mpr c9
     replace H := Option.bind_eq_some_iff.mp H
     obtain ⟨t234, A140, H⟩ := H
     replace H : (some t234) = some r := H
     have A14 := Aside0.mk A140
     clear A140
     obtain rfl := Option.some.inj H
     go_enter Try.func34, Try.ntmps34
     go_wp2_with (first | ((with_reducible refine gate_dst (N := 2) rfl ?_); refine box_event ?hg (N := 2) ?hd (cs := #[.int .i64 a0_0, .int .i64 a0_1, .int .i64 a0_2, .slice A0_3 l0_3.length c0_3, .slice A0_4 l0_4.length c0_4, .int .i64 a0_5, .int .i64 a0_6]) (t := 44) ?hr ?_; (case hd => rfl); (case hg => rfl); (case hr => first | (go_simp; done) | (go_simp; rfl)); intro gb230 hg w15 hbox hb; have n0_ := Aside0.mk (below_step (by repeat (first | (with_reducible first | exact HB.out | apply ba | apply bn | apply bd) | exact HB.out)) hb); have n1_ := Aside0.mk (hbox); have n2_ := Aside0.mk ((by rw [hg]; exact (below_size (by repeat (first | (with_reducible first | exact HB.out | apply ba | apply bn | apply bd) | exact HB.out))) : w.heap.size ≤ gb230)); have n3_ := Aside0.mk ((by rw [hg]; exact (below_size (by repeat (first | (with_reducible first | exact HB.out | apply ba | apply bn | apply bd) | exact HB.out))) : w.heap.size ≤ gb230)); clear HB; have HB := n0_; have BK230 := n1_; have GW230 := n2_; have GE230 := n3_; clear n0_ n1_ n2_ n3_; clear hb hbox hg; have hcz16_0 : w15.cell? ⟨gb230, 0, none⟩ = some (.int .i64 a0_0) := cl BK230.out 0 rfl; have hcz16_1 : w15.cell? ⟨gb230, 1, none⟩ = some (.int .i64 a0_1) := cl BK230.out 1 rfl; have hcz16_2 : w15.cell? ⟨gb230, 2, none⟩ = some (.int .i64 a0_2) := cl BK230.out 2 rfl; have hcz16_3 : w15.cell? ⟨gb230, 3, none⟩ = some (.slice A0_3 l0_3.length c0_3) := cl BK230.out 3 rfl; have hcz16_4 : w15.cell? ⟨gb230, 4, none⟩ = some (.slice A0_4 l0_4.length c0_4) := cl BK230.out 4 rfl; have hcz16_5 : w15.cell? ⟨gb230, 5, none⟩ = some (.int .i64 a0_5) := cl BK230.out 5 rfl; have hcz16_6 : w15.cell? ⟨gb230, 6, none⟩ = some (.int .i64 a0_6) := cl BK230.out 6 rfl; have hfz16_0 := fz BK230.out 0; have hfz16_1 := fz BK230.out 1; have hfz16_2 := fz BK230.out 2; have hfz16_3 := fz BK230.out 3; have hfz16_4 := fz BK230.out 4; have hfz16_5 := fz BK230.out 5; have hfz16_6 := fz BK230.out 6) | ((with_reducible refine gate_callee (f := 30) rfl ?_); refine goesL_ (some 6) rfl rfl Try.func30 (by kernel_rfl) rfl #[.agg #[.int .i64 a0_0, .int .i64 a0_1, .int .i64 a0_2, .slice A0_3 l0_3.length c0_3, .slice A0_4 l0_4.length c0_4, .int .i64 a0_5, .int .i64 a0_6]] rfl (by (try simp only [List.map_toArray, List.map_cons, List.map_nil]); first | done | rfl | (simp only [List.length_drop, List.length_take]; rfl)) ?_; (with_reducible refine (impl_PlanOk.calls k a0_0 a0_1 a0_2 _ _ l0_3 _ _ l0_4 a0_5 a0_6 true _ ?side1 ?side2 ?side3 ?side4 A3.out).mono ?_); (case side1 => repeat (first | exact (Kd.C_below HR0_3.out HB.out) | (with_reducible refine Kd.C_alloc ?_ _) | (with_reducible refine Kd.C_drewN ?_ _) | (with_reducible refine Kd.C_drew ?_))); (case side2 => exact HC0_3.out); (case side3 => repeat (first | exact (Kd.C_below HR0_4.out HB.out) | (with_reducible refine Kd.C_alloc ?_ _) | (with_reducible refine Kd.C_drewN ?_ _) | (with_reducible refine Kd.C_drew ?_))); (case side4 => exact HC0_4.out); rintro e w17 ⟨rfl, hb⟩; refine ⟨_, rfl, ?_⟩; have n0_ := Aside0.mk (blk_below (g := gb230) (o := .cells #[.int .i64 a0_0, .int .i64 a0_1, .int .i64 a0_2, .slice A0_3 l0_3.length c0_3, .slice A0_4 l0_4.length c0_4, .int .i64 a0_5, .int .i64 a0_6] 44 (0, 0)) (by (with_reducible repeat (first | refine blk_drewN ?_ _ | refine blk_drew ?_ | refine blk_alloc ?_ _)); exact BK230.out) hb); have n1_ := Aside0.mk (below_step (by repeat (first | (with_reducible first | exact HB.out | apply ba | apply bn | apply bd | refine bt ?_ GE230.out) | exact HB.out)) hb); clear BK230; clear HB; have BK230 := n0_; have HB := n1_; clear n0_ n1_; (try clear hb); (try clear hb2); (try clear hk); (try clear hi)) | (go_at_call 74; (with_reducible refine (impl_in.calls a1 0 31 true _ A5.out).mono ?_); rintro e w' ⟨rfl, ⟨nd, rfl⟩⟩; have hcz18_0 : w17.cell? ⟨gb230, 0, none⟩ = some (.int .i64 a0_0) := cl BK230.out 0 rfl; have hcz18_1 : w17.cell? ⟨gb230, 1, none⟩ = some (.int .i64 a0_1) := cl BK230.out 1 rfl; have hcz18_2 : w17.cell? ⟨gb230, 2, none⟩ = some (.int .i64 a0_2) := cl BK230.out 2 rfl; have hcz18_3 : w17.cell? ⟨gb230, 3, none⟩ = some (.slice A0_3 l0_3.length c0_3) := cl BK230.out 3 rfl; have hcz18_4 : w17.cell? ⟨gb230, 4, none⟩ = some (.slice A0_4 l0_4.length c0_4) := cl BK230.out 4 rfl; have hcz18_5 : w17.cell? ⟨gb230, 5, none⟩ = some (.int .i64 a0_5) := cl BK230.out 5 rfl; have hcz18_6 : w17.cell? ⟨gb230, 6, none⟩ = some (.int .i64 a0_6) := cl BK230.out 6 rfl; have hfz18_0 := fz BK230.out 0; have hfz18_1 := fz BK230.out 1; have hfz18_2 := fz BK230.out 2; have hfz18_3 := fz BK230.out 3; have hfz18_4 := fz BK230.out 4; have hfz18_5 := fz BK230.out 5; have hfz18_6 := fz BK230.out 6) | (go_at_call 82; (with_reducible refine (impl_most.calls a1 a0_5 true _ A7.out).mono ?_); rintro e w' ⟨rfl, ⟨nd, rfl⟩⟩) | (go_at_call 82; (with_reducible refine (impl_most.calls a1 a0_6 t234 _ A14.out).mono ?_); rintro e w' ⟨rfl, ⟨nd, rfl⟩⟩))
     go_ret
     exact ⟨by first | rfl | (simp [errW_none, errW_some] <;> rfl) | (simp [*, errW_none, errW_some] <;> rfl), by repeat (first | (with_reducible first | exact HB.out | apply ba | apply bn | apply bd | refine bt ?_ GE230.out) | exact HB.out)⟩
   ·replace c8 := Bool.eq_false_iff.mpr c8
    subst c8
    have H1 : (some false) = some r := by rw [if_neg (show ¬ (false = true) by decide)] at H; exact H
    clear H
    have H := H1
    clear H1
    obtain rfl := Option.some.inj H
    go_enter Try.func34, Try.ntmps34
    go_wp2_with (first | ((with_reducible refine gate_dst (N := 2) rfl ?_); refine box_event ?hg (N := 2) ?hd (cs := #[.int .i64 a0_0, .int .i64 a0_1, .int .i64 a0_2, .slice A0_3 l0_3.length c0_3, .slice A0_4 l0_4.length c0_4, .int .i64 a0_5, .int .i64 a0_6]) (t := 44) ?hr ?_; (case hd => rfl); (case hg => rfl); (case hr => first | (go_simp; done) | (go_simp; rfl)); intro gb230 hg w19 hbox hb; have n0_ := Aside0.mk (below_step (by repeat (first | (with_reducible first | exact HB.out | apply ba | apply bn | apply bd) | exact HB.out)) hb); have n1_ := Aside0.mk (hbox); have n2_ := Aside0.mk ((by rw [hg]; exact (below_size (by repeat (first | (with_reducible first | exact HB.out | apply ba | apply bn | apply bd) | exact HB.out))) : w.heap.size ≤ gb230)); have n3_ := Aside0.mk ((by rw [hg]; exact (below_size (by repeat (first | (with_reducible first | exact HB.out | apply ba | apply bn | apply bd) | exact HB.out))) : w.heap.size ≤ gb230)); clear HB; have HB := n0_; have BK230 := n1_; have GW230 := n2_; have GE230 := n3_; clear n0_ n1_ n2_ n3_; clear hb hbox hg; have hcz20_0 : w19.cell? ⟨gb230, 0, none⟩ = some (.int .i64 a0_0) := cl BK230.out 0 rfl; have hcz20_1 : w19.cell? ⟨gb230, 1, none⟩ = some (.int .i64 a0_1) := cl BK230.out 1 rfl; have hcz20_2 : w19.cell? ⟨gb230, 2, none⟩ = some (.int .i64 a0_2) := cl BK230.out 2 rfl; have hcz20_3 : w19.cell? ⟨gb230, 3, none⟩ = some (.slice A0_3 l0_3.length c0_3) := cl BK230.out 3 rfl; have hcz20_4 : w19.cell? ⟨gb230, 4, none⟩ = some (.slice A0_4 l0_4.length c0_4) := cl BK230.out 4 rfl; have hcz20_5 : w19.cell? ⟨gb230, 5, none⟩ = some (.int .i64 a0_5) := cl BK230.out 5 rfl; have hcz20_6 : w19.cell? ⟨gb230, 6, none⟩ = some (.int .i64 a0_6) := cl BK230.out 6 rfl; have hfz20_0 := fz BK230.out 0; have hfz20_1 := fz BK230.out 1; have hfz20_2 := fz BK230.out 2; have hfz20_3 := fz BK230.out 3; have hfz20_4 := fz BK230.out 4; have hfz20_5 := fz BK230.out 5; have hfz20_6 := fz BK230.out 6) | ((with_reducible refine gate_callee (f := 30) rfl ?_); refine goesL_ (some 6) rfl rfl Try.func30 (by kernel_rfl) rfl #[.agg #[.int .i64 a0_0, .int .i64 a0_1, .int .i64 a0_2, .slice A0_3 l0_3.length c0_3, .slice A0_4 l0_4.length c0_4, .int .i64 a0_5, .int .i64 a0_6]] rfl (by (try simp only [List.map_toArray, List.map_cons, List.map_nil]); first | done | rfl | (simp only [List.length_drop, List.length_take]; rfl)) ?_; (with_reducible refine (impl_PlanOk.calls k a0_0 a0_1 a0_2 _ _ l0_3 _ _ l0_4 a0_5 a0_6 true _ ?side1 ?side2 ?side3 ?side4 A3.out).mono ?_); (case side1 => repeat (first | exact (Kd.C_below HR0_3.out HB.out) | (with_reducible refine Kd.C_alloc ?_ _) | (with_reducible refine Kd.C_drewN ?_ _) | (with_reducible refine Kd.C_drew ?_))); (case side2 => exact HC0_3.out); (case side3 => repeat (first | exact (Kd.C_below HR0_4.out HB.out) | (with_reducible refine Kd.C_alloc ?_ _) | (with_reducible refine Kd.C_drewN ?_ _) | (with_reducible refine Kd.C_drew ?_))); (case side4 => exact HC0_4.out); rintro e w21 ⟨rfl, hb⟩; refine ⟨_, rfl, ?_⟩; have n0_ := Aside0.mk (blk_below (g := gb230) (o := .cells #[.int .i64 a0_0, .int .i64 a0_1, .int .i64 a0_2, .slice A0_3 l0_3.length c0_3, .slice A0_4 l0_4.length c0_4, .int .i64 a0_5, .int .i64 a0_6] 44 (0, 0)) (by (with_reducible repeat (first | refine blk_drewN ?_ _ | refine blk_drew ?_ | refine blk_alloc ?_ _)); exact BK230.out) hb); have n1_ := Aside0.mk (below_step (by repeat (first | (with_reducible first | exact HB.out | apply ba | apply bn | apply bd | refine bt ?_ GE230.out) | exact HB.out)) hb); clear BK230; clear HB; have BK230 := n0_; have HB := n1_; clear n0_ n1_; (try clear hb); (try clear hb2); (try clear hk); (try clear hi)) | (go_at_call 74; (with_reducible refine (impl_in.calls a1 0 31 true _ A5.out).mono ?_); rintro e w' ⟨rfl, ⟨nd, rfl⟩⟩; have hcz22_0 : w21.cell? ⟨gb230, 0, none⟩ = some (.int .i64 a0_0) := cl BK230.out 0 rfl; have hcz22_1 : w21.cell? ⟨gb230, 1, none⟩ = some (.int .i64 a0_1) := cl BK230.out 1 rfl; have hcz22_2 : w21.cell? ⟨gb230, 2, none⟩ = some (.int .i64 a0_2) := cl BK230.out 2 rfl; have hcz22_3 : w21.cell? ⟨gb230, 3, none⟩ = some (.slice A0_3 l0_3.length c0_3) := cl BK230.out 3 rfl; have hcz22_4 : w21.cell? ⟨gb230, 4, none⟩ = some (.slice A0_4 l0_4.length c0_4) := cl BK230.out 4 rfl; have hcz22_5 : w21.cell? ⟨gb230, 5, none⟩ = some (.int .i64 a0_5) := cl BK230.out 5 rfl; have hcz22_6 : w21.cell? ⟨gb230, 6, none⟩ = some (.int .i64 a0_6) := cl BK230.out 6 rfl; have hfz22_0 := fz BK230.out 0; have hfz22_1 := fz BK230.out 1; have hfz22_2 := fz BK230.out 2; have hfz22_3 := fz BK230.out 3; have hfz22_4 := fz BK230.out 4; have hfz22_5 := fz BK230.out 5; have hfz22_6 := fz BK230.out 6) | (go_at_call 82; (with_reducible refine (impl_most.calls a1 a0_5 false _ A7.out).mono ?_); rintro e w' ⟨rfl, ⟨nd, rfl⟩⟩))
    go_ret
    exact ⟨by first | rfl | (simp [errW_none, errW_some] <;> rfl) | (simp [*, errW_none, errW_some] <;> rfl), by repeat (first | (with_reducible first | exact HB.out | apply ba | apply bn | apply bd | refine bt ?_ GE230.out) | exact HB.out)⟩
  ·replace c6 := Bool.eq_false_iff.mpr c6
   subst c6
   have H1 : (some false) = some r := by rw [if_neg (show ¬ (false = true) by decide)] at H; exact H
   clear H
   have H := H1
   clear H1
   obtain rfl := Option.some.inj H
   go_enter Try.func34, Try.ntmps34
   go_wp2_with (first | ((with_reducible refine gate_dst (N := 2) rfl ?_); refine box_event ?hg (N := 2) ?hd (cs := #[.int .i64 a0_0, .int .i64 a0_1, .int .i64 a0_2, .slice A0_3 l0_3.length c0_3, .slice A0_4 l0_4.length c0_4, .int .i64 a0_5, .int .i64 a0_6]) (t := 44) ?hr ?_; (case hd => rfl); (case hg => rfl); (case hr => first | (go_simp; done) | (go_simp; rfl)); intro gb230 hg w23 hbox hb; have n0_ := Aside0.mk (below_step (by repeat (first | (with_reducible first | exact HB.out | apply ba | apply bn | apply bd) | exact HB.out)) hb); have n1_ := Aside0.mk (hbox); have n2_ := Aside0.mk ((by rw [hg]; exact (below_size (by repeat (first | (with_reducible first | exact HB.out | apply ba | apply bn | apply bd) | exact HB.out))) : w.heap.size ≤ gb230)); have n3_ := Aside0.mk ((by rw [hg]; exact (below_size (by repeat (first | (with_reducible first | exact HB.out | apply ba | apply bn | apply bd) | exact HB.out))) : w.heap.size ≤ gb230)); clear HB; have HB := n0_; have BK230 := n1_; have GW230 := n2_; have GE230 := n3_; clear n0_ n1_ n2_ n3_; clear hb hbox hg; have hcz24_0 : w23.cell? ⟨gb230, 0, none⟩ = some (.int .i64 a0_0) := cl BK230.out 0 rfl; have hcz24_1 : w23.cell? ⟨gb230, 1, none⟩ = some (.int .i64 a0_1) := cl BK230.out 1 rfl; have hcz24_2 : w23.cell? ⟨gb230, 2, none⟩ = some (.int .i64 a0_2) := cl BK230.out 2 rfl; have hcz24_3 : w23.cell? ⟨gb230, 3, none⟩ = some (.slice A0_3 l0_3.length c0_3) := cl BK230.out 3 rfl; have hcz24_4 : w23.cell? ⟨gb230, 4, none⟩ = some (.slice A0_4 l0_4.length c0_4) := cl BK230.out 4 rfl; have hcz24_5 : w23.cell? ⟨gb230, 5, none⟩ = some (.int .i64 a0_5) := cl BK230.out 5 rfl; have hcz24_6 : w23.cell? ⟨gb230, 6, none⟩ = some (.int .i64 a0_6) := cl BK230.out 6 rfl; have hfz24_0 := fz BK230.out 0; have hfz24_1 := fz BK230.out 1; have hfz24_2 := fz BK230.out 2; have hfz24_3 := fz BK230.out 3; have hfz24_4 := fz BK230.out 4; have hfz24_5 := fz BK230.out 5; have hfz24_6 := fz BK230.out 6) | ((with_reducible refine gate_callee (f := 30) rfl ?_); refine goesL_ (some 6) rfl rfl Try.func30 (by kernel_rfl) rfl #[.agg #[.int .i64 a0_0, .int .i64 a0_1, .int .i64 a0_2, .slice A0_3 l0_3.length c0_3, .slice A0_4 l0_4.length c0_4, .int .i64 a0_5, .int .i64 a0_6]] rfl (by (try simp only [List.map_toArray, List.map_cons, List.map_nil]); first | done | rfl | (simp only [List.length_drop, List.length_take]; rfl)) ?_; (with_reducible refine (impl_PlanOk.calls k a0_0 a0_1 a0_2 _ _ l0_3 _ _ l0_4 a0_5 a0_6 true _ ?side1 ?side2 ?side3 ?side4 A3.out).mono ?_); (case side1 => repeat (first | exact (Kd.C_below HR0_3.out HB.out) | (with_reducible refine Kd.C_alloc ?_ _) | (with_reducible refine Kd.C_drewN ?_ _) | (with_reducible refine Kd.C_drew ?_))); (case side2 => exact HC0_3.out); (case side3 => repeat (first | exact (Kd.C_below HR0_4.out HB.out) | (with_reducible refine Kd.C_alloc ?_ _) | (with_reducible refine Kd.C_drewN ?_ _) | (with_reducible refine Kd.C_drew ?_))); (case side4 => exact HC0_4.out); rintro e w25 ⟨rfl, hb⟩; refine ⟨_, rfl, ?_⟩; have n0_ := Aside0.mk (blk_below (g := gb230) (o := .cells #[.int .i64 a0_0, .int .i64 a0_1, .int .i64 a0_2, .slice A0_3 l0_3.length c0_3, .slice A0_4 l0_4.length c0_4, .int .i64 a0_5, .int .i64 a0_6] 44 (0, 0)) (by (with_reducible repeat (first | refine blk_drewN ?_ _ | refine blk_drew ?_ | refine blk_alloc ?_ _)); exact BK230.out) hb); have n1_ := Aside0.mk (below_step (by repeat (first | (with_reducible first | exact HB.out | apply ba | apply bn | apply bd | refine bt ?_ GE230.out) | exact HB.out)) hb); clear BK230; clear HB; have BK230 := n0_; have HB := n1_; clear n0_ n1_; (try clear hb); (try clear hb2); (try clear hk); (try clear hi)) | (go_at_call 74; (with_reducible refine (impl_in.calls a1 0 31 false _ A5.out).mono ?_); rintro e w' ⟨rfl, ⟨nd, rfl⟩⟩))
   go_ret
   exact ⟨by first | rfl | (simp [errW_none, errW_some] <;> rfl) | (simp [*, errW_none, errW_some] <;> rfl), by repeat (first | (with_reducible first | exact HB.out | apply ba | apply bn | apply bd | refine bt ?_ GE230.out) | exact HB.out)⟩
 ·replace c4 := Bool.eq_false_iff.mpr c4
  subst c4
  have H1 : (some false) = some r := by rw [if_neg (show ¬ (false = true) by decide)] at H; exact H
  clear H
  have H := H1
  clear H1
  obtain rfl := Option.some.inj H
  go_enter Try.func34, Try.ntmps34
  go_wp2_with (first | ((with_reducible refine gate_dst (N := 2) rfl ?_); refine box_event ?hg (N := 2) ?hd (cs := #[.int .i64 a0_0, .int .i64 a0_1, .int .i64 a0_2, .slice A0_3 l0_3.length c0_3, .slice A0_4 l0_4.length c0_4, .int .i64 a0_5, .int .i64 a0_6]) (t := 44) ?hr ?_; (case hd => rfl); (case hg => rfl); (case hr => first | (go_simp; done) | (go_simp; rfl)); intro gb230 hg w26 hbox hb; have n0_ := Aside0.mk (below_step (by repeat (first | (with_reducible first | exact HB.out | apply ba | apply bn | apply bd) | exact HB.out)) hb); have n1_ := Aside0.mk (hbox); have n2_ := Aside0.mk ((by rw [hg]; exact (below_size (by repeat (first | (with_reducible first | exact HB.out | apply ba | apply bn | apply bd) | exact HB.out))) : w.heap.size ≤ gb230)); have n3_ := Aside0.mk ((by rw [hg]; exact (below_size (by repeat (first | (with_reducible first | exact HB.out | apply ba | apply bn | apply bd) | exact HB.out))) : w.heap.size ≤ gb230)); clear HB; have HB := n0_; have BK230 := n1_; have GW230 := n2_; have GE230 := n3_; clear n0_ n1_ n2_ n3_; clear hb hbox hg; have hcz27_0 : w26.cell? ⟨gb230, 0, none⟩ = some (.int .i64 a0_0) := cl BK230.out 0 rfl; have hcz27_1 : w26.cell? ⟨gb230, 1, none⟩ = some (.int .i64 a0_1) := cl BK230.out 1 rfl; have hcz27_2 : w26.cell? ⟨gb230, 2, none⟩ = some (.int .i64 a0_2) := cl BK230.out 2 rfl; have hcz27_3 : w26.cell? ⟨gb230, 3, none⟩ = some (.slice A0_3 l0_3.length c0_3) := cl BK230.out 3 rfl; have hcz27_4 : w26.cell? ⟨gb230, 4, none⟩ = some (.slice A0_4 l0_4.length c0_4) := cl BK230.out 4 rfl; have hcz27_5 : w26.cell? ⟨gb230, 5, none⟩ = some (.int .i64 a0_5) := cl BK230.out 5 rfl; have hcz27_6 : w26.cell? ⟨gb230, 6, none⟩ = some (.int .i64 a0_6) := cl BK230.out 6 rfl; have hfz27_0 := fz BK230.out 0; have hfz27_1 := fz BK230.out 1; have hfz27_2 := fz BK230.out 2; have hfz27_3 := fz BK230.out 3; have hfz27_4 := fz BK230.out 4; have hfz27_5 := fz BK230.out 5; have hfz27_6 := fz BK230.out 6) | ((with_reducible refine gate_callee (f := 30) rfl ?_); refine goesL_ (some 6) rfl rfl Try.func30 (by kernel_rfl) rfl #[.agg #[.int .i64 a0_0, .int .i64 a0_1, .int .i64 a0_2, .slice A0_3 l0_3.length c0_3, .slice A0_4 l0_4.length c0_4, .int .i64 a0_5, .int .i64 a0_6]] rfl (by (try simp only [List.map_toArray, List.map_cons, List.map_nil]); first | done | rfl | (simp only [List.length_drop, List.length_take]; rfl)) ?_; (with_reducible refine (impl_PlanOk.calls k a0_0 a0_1 a0_2 _ _ l0_3 _ _ l0_4 a0_5 a0_6 false _ ?side1 ?side2 ?side3 ?side4 A3.out).mono ?_); (case side1 => repeat (first | exact (Kd.C_below HR0_3.out HB.out) | (with_reducible refine Kd.C_alloc ?_ _) | (with_reducible refine Kd.C_drewN ?_ _) | (with_reducible refine Kd.C_drew ?_))); (case side2 => exact HC0_3.out); (case side3 => repeat (first | exact (Kd.C_below HR0_4.out HB.out) | (with_reducible refine Kd.C_alloc ?_ _) | (with_reducible refine Kd.C_drewN ?_ _) | (with_reducible refine Kd.C_drew ?_))); (case side4 => exact HC0_4.out); rintro e w28 ⟨rfl, hb⟩; refine ⟨_, rfl, ?_⟩; have n0_ := Aside0.mk (blk_below (g := gb230) (o := .cells #[.int .i64 a0_0, .int .i64 a0_1, .int .i64 a0_2, .slice A0_3 l0_3.length c0_3, .slice A0_4 l0_4.length c0_4, .int .i64 a0_5, .int .i64 a0_6] 44 (0, 0)) (by (with_reducible repeat (first | refine blk_drewN ?_ _ | refine blk_drew ?_ | refine blk_alloc ?_ _)); exact BK230.out) hb); have n1_ := Aside0.mk (below_step (by repeat (first | (with_reducible first | exact HB.out | apply ba | apply bn | apply bd | refine bt ?_ GE230.out) | exact HB.out)) hb); clear BK230; clear HB; have BK230 := n0_; have HB := n1_; clear n0_ n1_; (try clear hb); (try clear hb2); (try clear hk); (try clear hi)))
  go_ret
  exact ⟨by first | rfl | (simp [errW_none, errW_some] <;> rfl) | (simp [*, errW_none, errW_some] <;> rfl), by repeat (first | (with_reducible first | exact HB.out | apply ba | apply bn | apply bd | refine bt ?_ GE230.out) | exact HB.out)⟩

/-! ### laws_FnExactPlanMost: function 8 -/
def laws_FnExactPlanMost.f (k : Nat) (a0_0 : Int) (a0_1 : Int) (a0_2 : Int) (l0_3 : List (S174)) (l0_4 : List (S137)) (a0_5 : Int) (a0_6 : Int) (a1 : Int) : Option (Bool) := (laws_szPlan.f a0_0 a0_1 a0_2 l0_3 l0_4 a0_5 a0_6 1048576).bind fun t236 => (if t236 < 0 then (some true) else ((laws_toPlan.f k a0_0 a0_1 a0_2 l0_3 l0_4 a0_5 a0_6).bind fun bt237 => ((spec_PlanMost.f k bt237.1 bt237.2.1 bt237.2.2.1 bt237.2.2.2.1 bt237.2.2.2.2.1 bt237.2.2.2.2.2.1 bt237.2.2.2.2.2.2 a1).bind fun t248 => ((laws_toPlan.f k a0_0 a0_1 a0_2 l0_3 l0_4 a0_5 a0_6).bind fun bt249 => ((impl_PlanMost.f k bt249.1 bt249.2.1 bt249.2.2.1 bt249.2.2.2.1 bt249.2.2.2.2.1 bt249.2.2.2.2.2.1 bt249.2.2.2.2.2.2 a1).bind fun t261 => (if (t261 != t248) = true then (some false) else ((laws_toPlan.f k a0_0 a0_1 a0_2 l0_3 l0_4 a0_5 a0_6).bind fun bt262 => ((laws_eqPlan.f k bt249.1 bt249.2.1 bt249.2.2.1 bt249.2.2.2.1 bt249.2.2.2.2.1 bt249.2.2.2.2.2.1 bt249.2.2.2.2.2.2 bt262.1 bt262.2.1 bt262.2.2.1 bt262.2.2.2.1 bt262.2.2.2.2.1 bt262.2.2.2.2.2.1 bt262.2.2.2.2.2.2).bind fun t273 => (if t273 = true then (some true) else (some false))))))))))
theorem laws_FnExactPlanMost.mono : ∀ a0 a1 a2 a3 a4 a5 a6 a7 k, LeO (laws_FnExactPlanMost.f k a0 a1 a2 a3 a4 a5 a6 a7) (laws_FnExactPlanMost.f (k + 1) a0 a1 a2 a3 a4 a5 a6 a7) := by
 intro a0 a1 a2 a3 a4 a5 a6 a7 k
 unfold laws_FnExactPlanMost.f
 repeat' first
   | (with_reducible exact impl_PlanMost.mono _ _ _ _ _ _ _ _ _)
   | (with_reducible exact laws_eqPlan.mono _ _ _ _ _ _ _ _ _ _ _ _ _ _ _)
   | (with_reducible exact laws_toPlan.mono _ _ _ _ _ _ _ _)
   | (with_reducible exact spec_PlanMost.mono _ _ _ _ _ _ _ _ _)
   | (with_reducible exact LeO.refl _)
   | (with_reducible exact LeO.none _)
   | (with_reducible refine LeO.ite ?_ ?_)
   | (with_reducible refine LeO.bind ?_ (fun _ => ?_))
   | exact impl_PlanMost.mono _ _ _ _ _ _ _ _ _
   | exact laws_eqPlan.mono _ _ _ _ _ _ _ _ _ _ _ _ _ _ _
   | exact laws_toPlan.mono _ _ _ _ _ _ _ _
   | exact spec_PlanMost.mono _ _ _ _ _ _ _ _ _
   | exact LeO.none _
   | refine LeO.ite ?_ ?_
   | refine LeO.bind ?_ (fun _ => ?_)
set_option maxHeartbeats 8000000 in
set_option maxRecDepth 100000 in
theorem laws_FnExactPlanMost.calls (k : Nat) (a0_0 : Int) (a0_1 : Int) (a0_2 : Int) (A0_3 : Option Addr) (c0_3 : Nat) (l0_3 : List (S174)) (A0_4 : Option Addr) (c0_4 : Nat) (l0_4 : List (S137)) (a0_5 : Int) (a0_6 : Int) (a1 : Int) (r : Bool) (w : World) (hr_ : r = true) (hr0_3 : Kd.C k174 w A0_3 l0_3.length l0_3) (hc0_3 : l0_3.length ≤ c0_3) (hr0_4 : Kd.C k137 w A0_4 l0_4.length l0_4) (hc0_4 : l0_4.length ≤ c0_4) (h : laws_FnExactPlanMost.f k a0_0 a0_1 a0_2 l0_3 l0_4 a0_5 a0_6 a1 = some r) :
  Calls Try.prog 8 #[.agg #[.int .i64 a0_0, .int .i64 a0_1, .int .i64 a0_2, .slice A0_3 l0_3.length c0_3, .slice A0_4 l0_4.length c0_4, .int .i64 a0_5, .int .i64 a0_6], .int .i64 a1] w fun e w' => e = .returned (.bool r) ∧ Below w.heap.size w w' := by
 have HTR := Aside0.mk hr_
 clear hr_
 have hu57 := Try.underlying57
 have hu44 := Try.underlying44
 have HR0_3 := Aside0.mk hr0_3
 have HC0_3 := Aside0.mk hc0_3
 clear hr0_3 hc0_3
 have HR0_4 := Aside0.mk hr0_4
 have HC0_4 := Aside0.mk hc0_4
 clear hr0_4 hc0_4
 have HB := Aside0.mk (Below.refl w.heap.size w)
 have H : ((laws_szPlan.f a0_0 a0_1 a0_2 l0_3 l0_4 a0_5 a0_6 1048576).bind fun t236 => (if t236 < 0 then (some true) else ((laws_toPlan.f k a0_0 a0_1 a0_2 l0_3 l0_4 a0_5 a0_6).bind fun bt237 => ((spec_PlanMost.f k bt237.1 bt237.2.1 bt237.2.2.1 bt237.2.2.2.1 bt237.2.2.2.2.1 bt237.2.2.2.2.2.1 bt237.2.2.2.2.2.2 a1).bind fun t248 => ((laws_toPlan.f k a0_0 a0_1 a0_2 l0_3 l0_4 a0_5 a0_6).bind fun bt249 => ((impl_PlanMost.f k bt249.1 bt249.2.1 bt249.2.2.1 bt249.2.2.2.1 bt249.2.2.2.2.1 bt249.2.2.2.2.2.1 bt249.2.2.2.2.2.2 a1).bind fun t261 => (if (t261 != t248) = true then (some false) else ((laws_toPlan.f k a0_0 a0_1 a0_2 l0_3 l0_4 a0_5 a0_6).bind fun bt262 => ((laws_eqPlan.f k bt249.1 bt249.2.1 bt249.2.2.1 bt249.2.2.2.1 bt249.2.2.2.2.1 bt249.2.2.2.2.2.1 bt249.2.2.2.2.2.2 bt262.1 bt262.2.1 bt262.2.2.1 bt262.2.2.2.1 bt262.2.2.2.2.1 bt262.2.2.2.2.2.1 bt262.2.2.2.2.2.2).bind fun t273 => (if t273 = true then (some true) else (some false))))))))))) = some r := h
 clear h
 replace H := Option.bind_eq_some_iff.mp H
 obtain ⟨t236, A30, H⟩ := H
 replace H : (if t236 < 0 then (some true) else ((laws_toPlan.f k a0_0 a0_1 a0_2 l0_3 l0_4 a0_5 a0_6).bind fun bt237 => ((spec_PlanMost.f k bt237.1 bt237.2.1 bt237.2.2.1 bt237.2.2.2.1 bt237.2.2.2.2.1 bt237.2.2.2.2.2.1 bt237.2.2.2.2.2.2 a1).bind fun t248 => ((laws_toPlan.f k a0_0 a0_1 a0_2 l0_3 l0_4 a0_5 a0_6).bind fun bt249 => ((impl_PlanMost.f k bt249.1 bt249.2.1 bt249.2.2.1 bt249.2.2.2.1 bt249.2.2.2.2.1 bt249.2.2.2.2.2.1 bt249.2.2.2.2.2.2 a1).bind fun t261 => (if (t261 != t248) = true then (some false) else ((laws_toPlan.f k a0_0 a0_1 a0_2 l0_3 l0_4 a0_5 a0_6).bind fun bt262 => ((laws_eqPlan.f k bt249.1 bt249.2.1 bt249.2.2.1 bt249.2.2.2.1 bt249.2.2.2.2.1 bt249.2.2.2.2.2.1 bt249.2.2.2.2.2.2 bt262.1 bt262.2.1 bt262.2.2.1 bt262.2.2.2.1 bt262.2.2.2.2.1 bt262.2.2.2.2.2.1 bt262.2.2.2.2.2.2).bind fun t273 => (if t273 = true then (some true) else (some false)))))))))) = some r := H
 have A3 := Aside0.mk A30
 clear A30
 by_cases c4 : t236 < 0
 ·rw [if_pos c4] at H
  have c4b0 : decide (t236 < 0) = true := decide_eq_true c4
  clear c4
  obtain rfl := Option.some.inj H
  go_enter Try.func8, Try.ntmps8
  go_wp2_with (first | ((with_reducible refine gate_dst (N := 2) rfl ?_); refine box_event ?hg (N := 2) ?hd (cs := #[.int .i64 a0_0, .int .i64 a0_1, .int .i64 a0_2, .slice A0_3 l0_3.length c0_3, .slice A0_4 l0_4.length c0_4, .int .i64 a0_5, .int .i64 a0_6]) (t := 57) ?hr ?_; (case hd => rfl); (case hg => rfl); (case hr => first | (go_simp; done) | (go_simp; rfl)); intro gb235 hg w5 hbox hb; have n0_ := Aside0.mk (below_step (by repeat (first | (with_reducible first | exact HB.out | apply ba | apply bn | apply bd) | exact HB.out)) hb); have n1_ := Aside0.mk (hbox); have n2_ := Aside0.mk ((by rw [hg]; exact (below_size (by repeat (first | (with_reducible first | exact HB.out | apply ba | apply bn | apply bd) | exact HB.out))) : w.heap.size ≤ gb235)); have n3_ := Aside0.mk ((by rw [hg]; exact (below_size (by repeat (first | (with_reducible first | exact HB.out | apply ba | apply bn | apply bd) | exact HB.out))) : w.heap.size ≤ gb235)); clear HB; have HB := n0_; have BK235 := n1_; have GW235 := n2_; have GE235 := n3_; clear n0_ n1_ n2_ n3_; clear hb hbox hg; have hcz6_0 : w5.cell? ⟨gb235, 0, none⟩ = some (.int .i64 a0_0) := cl BK235.out 0 rfl; have hcz6_1 : w5.cell? ⟨gb235, 1, none⟩ = some (.int .i64 a0_1) := cl BK235.out 1 rfl; have hcz6_2 : w5.cell? ⟨gb235, 2, none⟩ = some (.int .i64 a0_2) := cl BK235.out 2 rfl; have hcz6_3 : w5.cell? ⟨gb235, 3, none⟩ = some (.slice A0_3 l0_3.length c0_3) := cl BK235.out 3 rfl; have hcz6_4 : w5.cell? ⟨gb235, 4, none⟩ = some (.slice A0_4 l0_4.length c0_4) := cl BK235.out 4 rfl; have hcz6_5 : w5.cell? ⟨gb235, 5, none⟩ = some (.int .i64 a0_5) := cl BK235.out 5 rfl; have hcz6_6 : w5.cell? ⟨gb235, 6, none⟩ = some (.int .i64 a0_6) := cl BK235.out 6 rfl; have hfz6_0 := fz BK235.out 0; have hfz6_1 := fz BK235.out 1; have hfz6_2 := fz BK235.out 2; have hfz6_3 := fz BK235.out 3; have hfz6_4 := fz BK235.out 4; have hfz6_5 := fz BK235.out 5; have hfz6_6 := fz BK235.out 6) | ((with_reducible refine gate_callee (f := 27) rfl ?_); refine goesL_ (some 11) rfl rfl Try.func27 (by kernel_rfl) rfl #[.agg #[.int .i64 a0_0, .int .i64 a0_1, .int .i64 a0_2, .slice A0_3 l0_3.length c0_3, .slice A0_4 l0_4.length c0_4, .int .i64 a0_5, .int .i64 a0_6], .int .i64 1048576] rfl (by (try simp only [List.map_toArray, List.map_cons, List.map_nil]); first | done | rfl | (simp only [List.length_drop, List.length_take]; rfl)) ?_; (with_reducible refine (laws_szPlan.calls a0_0 a0_1 a0_2 _ _ l0_3 _ _ l0_4 a0_5 a0_6 1048576 t236 _ ?side1 ?side2 ?side3 ?side4 A3.out).mono ?_); (case side1 => repeat (first | exact (Kd.C_below HR0_3.out HB.out) | (with_reducible refine Kd.C_alloc ?_ _) | (with_reducible refine Kd.C_drewN ?_ _) | (with_reducible refine Kd.C_drew ?_))); (case side2 => exact HC0_3.out); (case side3 => repeat (first | exact (Kd.C_below HR0_4.out HB.out) | (with_reducible refine Kd.C_alloc ?_ _) | (with_reducible refine Kd.C_drewN ?_ _) | (with_reducible refine Kd.C_drew ?_))); (case side4 => exact HC0_4.out); rintro e w7 ⟨rfl, hb⟩; refine ⟨_, rfl, ?_⟩; have n0_ := Aside0.mk (blk_below (g := gb235) (o := .cells #[.int .i64 a0_0, .int .i64 a0_1, .int .i64 a0_2, .slice A0_3 l0_3.length c0_3, .slice A0_4 l0_4.length c0_4, .int .i64 a0_5, .int .i64 a0_6] 57 (0, 0)) (by (with_reducible repeat (first | refine blk_drewN ?_ _ | refine blk_drew ?_ | refine blk_alloc ?_ _)); exact BK235.out) hb); have n1_ := Aside0.mk (below_step (by repeat (first | (with_reducible first | exact HB.out | apply ba | apply bn | apply bd | refine bt ?_ GE235.out) | exact HB.out)) hb); clear BK235; clear HB; have BK235 := n0_; have HB := n1_; clear n0_ n1_; (try clear hb); (try clear hb2); (try clear hk); (try clear hi)))
  go_ret
  exact ⟨by first | rfl | (simp [errW_none, errW_some] <;> rfl) | (simp [*, errW_none, errW_some] <;> rfl), by repeat (first | (with_reducible first | exact HB.out | apply ba | apply bn | apply bd | refine bt ?_ GE235.out) | exact HB.out)⟩
 ·rw [if_neg c4] at H
  have c4b0 : decide (t236 < 0) = false := decide_eq_false c4
  clear c4
  replace H := Option.bind_eq_some_iff.mp H
  obtain ⟨⟨t237, t238, t239, t240, t243, t246, t247⟩, A80, H⟩ := H
  replace H : ((spec_PlanMost.f k t237 t238 t239 t240 t243 t246 t247 a1).bind fun t248 => ((laws_toPlan.f k a0_0 a0_1 a0_2 l0_3 l0_4 a0_5 a0_6).bind fun bt249 => ((impl_PlanMost.f k bt249.1 bt249.2.1 bt249.2.2.1 bt249.2.2.2.1 bt249.2.2.2.2.1 bt249.2.2.2.2.2.1 bt249.2.2.2.2.2.2 a1).bind fun t261 => (if (t261 != t248) = true then (some false) else ((laws_toPlan.f k a0_0 a0_1 a0_2 l0_3 l0_4 a0_5 a0_6).bind fun bt262 => ((laws_eqPlan.f k bt249.1 bt249.2.1 bt249.2.2.1 bt249.2.2.2.1 bt249.2.2.2.2.1 bt249.2.2.2.2.2.1 bt249.2.2.2.2.2.2 bt262.1 bt262.2.1 bt262.2.2.1 bt262.2.2.2.1 bt262.2.2.2.2.1 bt262.2.2.2.2.2.1 bt262.2.2.2.2.2.2).bind fun t273 => (if t273 = true then (some true) else (some false)))))))) = some r := H
  have A8 := Aside0.mk A80
  clear A80
  replace H := Option.bind_eq_some_iff.mp H
  obtain ⟨t248, A90, H⟩ := H
  replace H : ((laws_toPlan.f k a0_0 a0_1 a0_2 l0_3 l0_4 a0_5 a0_6).bind fun bt249 => ((impl_PlanMost.f k bt249.1 bt249.2.1 bt249.2.2.1 bt249.2.2.2.1 bt249.2.2.2.2.1 bt249.2.2.2.2.2.1 bt249.2.2.2.2.2.2 a1).bind fun t261 => (if (t261 != t248) = true then (some false) else ((laws_toPlan.f k a0_0 a0_1 a0_2 l0_3 l0_4 a0_5 a0_6).bind fun bt262 => ((laws_eqPlan.f k bt249.1 bt249.2.1 bt249.2.2.1 bt249.2.2.2.1 bt249.2.2.2.2.1 bt249.2.2.2.2.2.1 bt249.2.2.2.2.2.2 bt262.1 bt262.2.1 bt262.2.2.1 bt262.2.2.2.1 bt262.2.2.2.2.1 bt262.2.2.2.2.2.1 bt262.2.2.2.2.2.2).bind fun t273 => (if t273 = true then (some true) else (some false))))))) = some r := H
  have A9 := Aside0.mk A90
  clear A90
  replace H := Option.bind_eq_some_iff.mp H
  obtain ⟨⟨t249, t250, t251, t252, t255, t258, t259⟩, A100, H⟩ := H
  replace H : ((impl_PlanMost.f k t249 t250 t251 t252 t255 t258 t259 a1).bind fun t261 => (if (t261 != t248) = true then (some false) else ((laws_toPlan.f k a0_0 a0_1 a0_2 l0_3 l0_4 a0_5 a0_6).bind fun bt262 => ((laws_eqPlan.f k t249 t250 t251 t252 t255 t258 t259 bt262.1 bt262.2.1 bt262.2.2.1 bt262.2.2.2.1 bt262.2.2.2.2.1 bt262.2.2.2.2.2.1 bt262.2.2.2.2.2.2).bind fun t273 => (if t273 = true then (some true) else (some false)))))) = some r := H
  have A10 := Aside0.mk A100
  clear A100
  replace H := Option.bind_eq_some_iff.mp H
  obtain ⟨t261, A110, H⟩ := H
  replace H : (if (t261 != t248) = true then (some false) else ((laws_toPlan.f k a0_0 a0_1 a0_2 l0_3 l0_4 a0_5 a0_6).bind fun bt262 => ((laws_eqPlan.f k t249 t250 t251 t252 t255 t258 t259 bt262.1 bt262.2.1 bt262.2.2.1 bt262.2.2.2.1 bt262.2.2.2.2.1 bt262.2.2.2.2.2.1 bt262.2.2.2.2.2.2).bind fun t273 => (if t273 = true then (some true) else (some false))))) = some r := H
  have A11 := Aside0.mk A110
  clear A110
  by_cases c12 : (t261 != t248) = true
  ·rw [if_pos c12] at H
   have c12b0 : (t261 != t248) = true := c12
   (try (have c12b1 : decide (t261 = t248) = false := by simpa using c12))
   (try (have c12b2 : (t261 == t248) = false := by simpa using c12))
   (try (have c12b3 : ¬ (t261 = t248) := by simpa using c12))
   clear c12
   exact absurd (Option.some.inj H) (by rw [HTR.out]; decide)
  ·rw [if_neg c12] at H
   have c12b0 : (t261 != t248) = false := by simpa using c12
   (try (have c12b1 : decide (t261 = t248) = true := by simpa using c12))
   (try (have c12b2 : (t261 == t248) = true := by simpa using c12))
   clear c12
   replace H := Option.bind_eq_some_iff.mp H
   obtain ⟨⟨t262, t263, t264, t265, t268, t271, t272⟩, A130, H⟩ := H
   replace H : ((laws_eqPlan.f k t249 t250 t251 t252 t255 t258 t259 t262 t263 t264 t265 t268 t271 t272).bind fun t273 => (if t273 = true then (some true) else (some false))) = some r := H
   have A13 := Aside0.mk A130
   clear A130
   replace H := Option.bind_eq_some_iff.mp H
   obtain ⟨t273, A140, H⟩ := H
   replace H : (if t273 = true then (some true) else (some false)) = some r := H
   have A14 := Aside0.mk A140
   clear A140
   by_cases c15 : t273 = true
   ·subst c15
    have H1 : (some true) = some r := by rw [if_pos rfl] at H; exact H
    clear H
    have H := H1
    clear H1
    obtain rfl := Option.some.inj H
    go_enter Try.func8, Try.ntmps8
    try go_wp2_with (first | ((with_reducible refine gate_dst (N := 2) rfl ?_); refine box_event ?hg (N := 2) ?hd (cs := #[.int .i64 a0_0, .int .i64 a0_1, .int .i64 a0_2, .slice A0_3 l0_3.length c0_3, .slice A0_4 l0_4.length c0_4, .int .i64 a0_5, .int .i64 a0_6]) (t := 57) ?hr ?_; (case hd => rfl); (case hg => rfl); (case hr => first | (go_simp; done) | (go_simp; rfl)); intro gb235 hg w16 hbox hb; have n0_ := Aside0.mk (below_step (by repeat (first | (with_reducible first | exact HB.out | apply ba | apply bn | apply bd) | exact HB.out)) hb); have n1_ := Aside0.mk (hbox); have n2_ := Aside0.mk ((by rw [hg]; exact (below_size (by repeat (first | (with_reducible first | exact HB.out | apply ba | apply bn | apply bd) | exact HB.out))) : w.heap.size ≤ gb235)); have n3_ := Aside0.mk ((by rw [hg]; exact (below_size (by repeat (first | (with_reducible first | exact HB.out | apply ba | apply bn | apply bd) | exact HB.out))) : w.heap.size ≤ gb235)); clear HB; have HB := n0_; have BK235 := n1_; have GW235 := n2_; have GE235 := n3_; clear n0_ n1_ n2_ n3_; clear hb hbox hg; have hcz17_0 : w16.cell? ⟨gb235, 0, none⟩ = some (.int .i64 a0_0) := cl BK235.out 0 rfl; have hcz17_1 : w16.cell? ⟨gb235, 1, none⟩ = some (.int .i64 a0_1) := cl BK235.out 1 rfl; have hcz17_2 : w16.cell? ⟨gb235, 2, none⟩ = some (.int .i64 a0_2) := cl BK235.out 2 rfl; have hcz17_3 : w16.cell? ⟨gb235, 3, none⟩ = some (.slice A0_3 l0_3.length c0_3) := cl BK235.out 3 rfl; have hcz17_4 : w16.cell? ⟨gb235, 4, none⟩ = some (.slice A0_4 l0_4.length c0_4) := cl BK235.out 4 rfl; have hcz17_5 : w16.cell? ⟨gb235, 5, none⟩ = some (.int .i64 a0_5) := cl BK235.out 5 rfl; have hcz17_6 : w16.cell? ⟨gb235, 6, none⟩ = some (.int .i64 a0_6) := cl BK235.out 6 rfl; have hfz17_0 := fz BK235.out 0; have hfz17_1 := fz BK235.out 1; have hfz17_2 := fz BK235.out 2; have hfz17_3 := fz BK235.out 3; have hfz17_4 := fz BK235.out 4; have hfz17_5 := fz BK235.out 5; have hfz17_6 := fz BK235.out 6) | ((with_reducible refine gate_callee (f := 27) rfl ?_); refine goesL_ (some 11) rfl rfl Try.func27 (by kernel_rfl) rfl #[.agg #[.int .i64 a0_0, .int .i64 a0_1, .int .i64 a0_2, .slice A0_3 l0_3.length c0_3, .slice A0_4 l0_4.length c0_4, .int .i64 a0_5, .int .i64 a0_6], .int .i64 1048576] rfl (by (try simp only [List.map_toArray, List.map_cons, List.map_nil]); first | done | rfl | (simp only [List.length_drop, List.length_take]; rfl)) ?_; (with_reducible refine (laws_szPlan.calls a0_0 a0_1 a0_2 _ _ l0_3 _ _ l0_4 a0_5 a0_6 1048576 t236 _ ?side1 ?side2 ?side3 ?side4 A3.out).mono ?_); (case side1 => repeat (first | exact (Kd.C_below HR0_3.out HB.out) | (with_reducible refine Kd.C_alloc ?_ _) | (with_reducible refine Kd.C_drewN ?_ _) | (with_reducible refine Kd.C_drew ?_))); (case side2 => exact HC0_3.out); (case side3 => repeat (first | exact (Kd.C_below HR0_4.out HB.out) | (with_reducible refine Kd.C_alloc ?_ _) | (with_reducible refine Kd.C_drewN ?_ _) | (with_reducible refine Kd.C_drew ?_))); (case side4 => exact HC0_4.out); rintro e w18 ⟨rfl, hb⟩; refine ⟨_, rfl, ?_⟩; have n0_ := Aside0.mk (blk_below (g := gb235) (o := .cells #[.int .i64 a0_0, .int .i64 a0_1, .int .i64 a0_2, .slice A0_3 l0_3.length c0_3, .slice A0_4 l0_4.length c0_4, .int .i64 a0_5, .int .i64 a0_6] 57 (0, 0)) (by (with_reducible repeat (first | refine blk_drewN ?_ _ | refine blk_drew ?_ | refine blk_alloc ?_ _)); exact BK235.out) hb); have n1_ := Aside0.mk (below_step (by repeat (first | (with_reducible first | exact HB.out | apply ba | apply bn | apply bd | refine bt ?_ GE235.out) | exact HB.out)) hb); clear BK235; clear HB; have BK235 := n0_; have HB := n1_; clear n0_ n1_; (try clear hb); (try clear hb2); (try clear hk); (try clear hi); have hcz19_0 : w18.cell? ⟨gb235, 0, none⟩ = some (.int .i64 a0_0) := cl BK235.out 0 rfl; have hcz19_1 : w18.cell? ⟨gb235, 1, none⟩ = some (.int .i64 a0_1) := cl BK235.out 1 rfl; have hcz19_2 : w18.cell? ⟨gb235, 2, none⟩ = some (.int .i64 a0_2) := cl BK235.out 2 rfl; have hcz19_3 : w18.cell? ⟨gb235, 3, none⟩ = some (.slice A0_3 l0_3.length c0_3) := cl BK235.out 3 rfl; have hcz19_4 : w18.cell? ⟨gb235, 4, none⟩ = some (.slice A0_4 l0_4.length c0_4) := cl BK235.out 4 rfl; have hcz19_5 : w18.cell? ⟨gb235, 5, none⟩ = some (.int .i64 a0_5) := cl BK235.out 5 rfl; have hcz19_6 : w18.cell? ⟨gb235, 6, none⟩ = some (.int .i64 a0_6) := cl BK235.out 6 rfl; have hfz19_0 := fz BK235.out 0; have hfz19_1 := fz BK235.out 1; have hfz19_2 := fz BK235.out 2; have hfz19_3 := fz BK235.out 3; have hfz19_4 := fz BK235.out 4; have hfz19_5 := fz BK235.out 5; have hfz19_6 := fz BK235.out 6) | ((with_reducible refine gate_callee (f := 29) rfl ?_); refine goesL_ (some 15) rfl rfl Try.func29 (by kernel_rfl) rfl #[.agg #[.int .i64 a0_0, .int .i64 a0_1, .int .i64 a0_2, .slice A0_3 l0_3.length c0_3, .slice A0_4 l0_4.length c0_4, .int .i64 a0_5, .int .i64 a0_6]] rfl (by (try simp only [List.map_toArray, List.map_cons, List.map_nil]); first | done | rfl | (simp only [List.length_drop, List.length_take]; rfl)) ?_; (with_reducible refine (laws_toPlan.calls k a0_0 a0_1 a0_2 _ _ l0_3 _ _ l0_4 a0_5 a0_6 t237 t238 t239 t240 t243 t246 t247 _ ?side1 ?side2 ?side3 ?side4 A8.out).mono ?_); (case side1 => repeat (first | exact (Kd.C_below HR0_3.out HB.out) | (with_reducible refine Kd.C_alloc ?_ _) | (with_reducible refine Kd.C_drewN ?_ _) | (with_reducible refine Kd.C_drew ?_))); (case side2 => exact HC0_3.out); (case side3 => repeat (first | exact (Kd.C_below HR0_4.out HB.out) | (with_reducible refine Kd.C_alloc ?_ _) | (with_reducible refine Kd.C_drewN ?_ _) | (with_reducible refine Kd.C_drew ?_))); (case side4 => exact HC0_4.out); rintro e w20 ⟨v241, v244, rfl, ho0, ho1, hb⟩; refine ⟨_, rfl, ?_⟩; have n0_ := Aside0.mk (Kd.R_lower ho0 (below_size (by repeat (first | (with_reducible first | exact HB.out | apply ba | apply bn | apply bd | refine bt ?_ GE235.out) | exact HB.out)))); have n1_ := Aside0.mk (Kd.R_lower ho1 (below_size (by repeat (first | (with_reducible first | exact HB.out | apply ba | apply bn | apply bd | refine bt ?_ GE235.out) | exact HB.out)))); have n2_ := Aside0.mk (blk_below (g := gb235) (o := .cells #[.int .i64 a0_0, .int .i64 a0_1, .int .i64 a0_2, .slice A0_3 l0_3.length c0_3, .slice A0_4 l0_4.length c0_4, .int .i64 a0_5, .int .i64 a0_6] 57 (0, 0)) (by (with_reducible repeat (first | refine blk_drewN ?_ _ | refine blk_drew ?_ | refine blk_alloc ?_ _)); exact BK235.out) hb); have n3_ := Aside0.mk (below_step (by repeat (first | (with_reducible first | exact HB.out | apply ba | apply bn | apply bd | refine bt ?_ GE235.out) | exact HB.out)) hb); clear BK235; clear HB; have HO242 := n0_; have HO245 := n1_; have BK235 := n2_; have HB := n3_; clear n0_ n1_ n2_ n3_; (try clear hb); (try clear hb2); (try clear hk); (try clear hi); (try clear ho0); (try clear ho1); obtain ⟨Ao21, co21, eo21⟩ := Kd.R_slice HO242.out; subst eo21; obtain ⟨Ao22, co22, eo22⟩ := Kd.R_slice HO245.out; subst eo22) | ((with_reducible refine gate_callee (f := 33) rfl ?_); refine goesL_ (some 17) rfl rfl Try.func33 (by kernel_rfl) rfl #[.agg #[.int .i64 t237, .int .i64 t238, .int .i64 t239, .slice Ao21 t240.length co21, .slice Ao22 t243.length co22, .int .i64 t246, .int .i64 t247], .int .i64 a1] rfl (by (try simp only [List.map_toArray, List.map_cons, List.map_nil]); first | done | rfl | (simp only [List.length_drop, List.length_take]; rfl)) ?_; (with_reducible refine (spec_PlanMost.calls k t237 t238 t239 _ _ t240 _ _ t243 t246 t247 a1 t248 _ ?side1 ?side2 ?side3 ?side4 A9.out).mono ?_); (case side1 => repeat (first | exact (Kd.R_reads' HO242.out).2.2 | (with_reducible refine Kd.C_alloc ?_ _) | (with_reducible refine Kd.C_drewN ?_ _) | (with_reducible refine Kd.C_drew ?_))); (case side2 => exact (Kd.R_reads' HO242.out).2.1); (case side3 => repeat (first | exact (Kd.R_reads' HO245.out).2.2 | (with_reducible refine Kd.C_alloc ?_ _) | (with_reducible refine Kd.C_drewN ?_ _) | (with_reducible refine Kd.C_drew ?_))); (case side4 => exact (Kd.R_reads' HO245.out).2.1); rintro e w23 ⟨rfl, hb⟩; refine ⟨_, rfl, ?_⟩; have n0_ := Aside0.mk (Kd.R_below (by (with_reducible repeat (first | apply Kd.R_alloc | apply Kd.R_drewN | apply Kd.R_drew)); exact HO242.out) hb); have n1_ := Aside0.mk (Kd.R_below (by (with_reducible repeat (first | apply Kd.R_alloc | apply Kd.R_drewN | apply Kd.R_drew)); exact HO245.out) hb); have n2_ := Aside0.mk (blk_below (g := gb235) (o := .cells #[.int .i64 a0_0, .int .i64 a0_1, .int .i64 a0_2, .slice A0_3 l0_3.length c0_3, .slice A0_4 l0_4.length c0_4, .int .i64 a0_5, .int .i64 a0_6] 57 (0, 0)) (by (with_reducible repeat (first | refine blk_drewN ?_ _ | refine blk_drew ?_ | refine blk_alloc ?_ _)); exact BK235.out) hb); have n3_ := Aside0.mk (below_step (by repeat (first | (with_reducible first | exact HB.out | apply ba | apply bn | apply bd | refine bt ?_ GE235.out) | exact HB.out)) hb); clear HO242; clear HO245; clear BK235; clear HB; have HO242 := n0_; have HO245 := n1_; have BK235 := n2_; have HB := n3_; clear n0_ n1_ n2_ n3_; (try clear hb); (try clear hb2); (try clear hk); (try clear hi); have hcz24_0 : w23.cell? ⟨gb235, 0, none⟩ = some (.int .i64 a0_0) := cl BK235.out 0 rfl; have hcz24_1 : w23.cell? ⟨gb235, 1, none⟩ = some (.int .i64 a0_1) := cl BK235.out 1 rfl; have hcz24_2 : w23.cell? ⟨gb235, 2, none⟩ = some (.int .i64 a0_2) := cl BK235.out 2 rfl; have hcz24_3 : w23.cell? ⟨gb235, 3, none⟩ = some (.slice A0_3 l0_3.length c0_3) := cl BK235.out 3 rfl; have hcz24_4 : w23.cell? ⟨gb235, 4, none⟩ = some (.slice A0_4 l0_4.length c0_4) := cl BK235.out 4 rfl; have hcz24_5 : w23.cell? ⟨gb235, 5, none⟩ = some (.int .i64 a0_5) := cl BK235.out 5 rfl; have hcz24_6 : w23.cell? ⟨gb235, 6, none⟩ = some (.int .i64 a0_6) := cl BK235.out 6 rfl; have hfz24_0 := fz BK235.out 0; have hfz24_1 := fz BK235.out 1; have hfz24_2 := fz BK235.out 2; have hfz24_3 := fz BK235.out 3; have hfz24_4 := fz BK235.out 4; have hfz24_5 := fz BK235.out 5; have hfz24_6 := fz BK235.out 6) | ((with_reducible refine gate_callee (f := 29) rfl ?_); refine goesL_ (some 19) rfl rfl Try.func29 (by kernel_rfl) rfl #[.agg #[.int .i64 a0_0, .int .i64 a0_1, .int .i64 a0_2, .slice A0_3 l0_3.length c0_3, .slice A0_4 l0_4.length c0_4, .int .i64 a0_5, .int .i64 a0_6]] rfl (by (try simp only [List.map_toArray, List.map_cons, List.map_nil]); first | done | rfl | (simp only [List.length_drop, List.length_take]; rfl)) ?_; (with_reducible refine (laws_toPlan.calls k a0_0 a0_1 a0_2 _ _ l0_3 _ _ l0_4 a0_5 a0_6 t249 t250 t251 t252 t255 t258 t259 _ ?side1 ?side2 ?side3 ?side4 A10.out).mono ?_); (case side1 => repeat (first | exact (Kd.C_below HR0_3.out HB.out) | (with_reducible refine Kd.C_alloc ?_ _) | (with_reducible refine Kd.C_drewN ?_ _) | (with_reducible refine Kd.C_drew ?_))); (case side2 => exact HC0_3.out); (case side3 => repeat (first | exact (Kd.C_below HR0_4.out HB.out) | (with_reducible refine Kd.C_alloc ?_ _) | (with_reducible refine Kd.C_drewN ?_ _) | (with_reducible refine Kd.C_drew ?_))); (case side4 => exact HC0_4.out); rintro e w25 ⟨v253, v256, rfl, ho0, ho1, hb⟩; refine ⟨_, rfl, ?_⟩; have n0_ := Aside0.mk (Kd.R_elder' (by (with_reducible repeat (first | apply Kd.R_alloc | apply Kd.R_drewN | apply Kd.R_drew)); exact HO242.out) (Kd.R_base ho0) hb); have n1_ := Aside0.mk (Kd.R_elder' (by (with_reducible repeat (first | apply Kd.R_alloc | apply Kd.R_drewN | apply Kd.R_drew)); exact HO245.out) (Kd.R_base ho1) hb); have n2_ := Aside0.mk (Kd.R_lower (Kd.R_new' ho0 (Kd.R_lt (by (with_reducible repeat (first | apply Kd.R_alloc | apply Kd.R_drewN | apply Kd.R_drew)); exact HO242.out))) (below_size (by repeat (first | (with_reducible first | exact HB.out | apply ba | apply bn | apply bd | refine bt ?_ GE235.out) | exact HB.out)))); have n3_ := Aside0.mk (Kd.R_lower (Kd.R_new' ho1 (Kd.R_lt (by (with_reducible repeat (first | apply Kd.R_alloc | apply Kd.R_drewN | apply Kd.R_drew)); exact HO245.out))) (below_size (by repeat (first | (with_reducible first | exact HB.out | apply ba | apply bn | apply bd | refine bt ?_ GE235.out) | exact HB.out)))); have n4_ := Aside0.mk (blk_below (g := gb235) (o := .cells #[.int .i64 a0_0, .int .i64 a0_1, .int .i64 a0_2, .slice A0_3 l0_3.length c0_3, .slice A0_4 l0_4.length c0_4, .int .i64 a0_5, .int .i64 a0_6] 57 (0, 0)) (by (with_reducible repeat (first | refine blk_drewN ?_ _ | refine blk_drew ?_ | refine blk_alloc ?_ _)); exact BK235.out) hb); have n5_ := Aside0.mk (below_step (by repeat (first | (with_reducible first | exact HB.out | apply ba | apply bn | apply bd | refine bt ?_ GE235.out) | exact HB.out)) hb); clear HO242; clear HO245; clear BK235; clear HB; have HO242 := n0_; have HO245 := n1_; have HO254 := n2_; have HO257 := n3_; have BK235 := n4_; have HB := n5_; clear n0_ n1_ n2_ n3_ n4_ n5_; (try clear hb); (try clear hb2); (try clear hk); (try clear hi); (try clear ho0); (try clear ho1)) | ((with_reducible refine gate_dst (N := 7) rfl ?_); refine box_event ?hg (N := 7) ?hd (cs := #[.int .i64 0, .int .i64 0, .int .i64 0, .slice none 0 0, .slice none 0 0, .int .i64 0, .int .i64 0]) (t := 44) ?hr ?_; (case hd => rfl); (case hg => rfl); (case hr => first | (go_simp; done) | (go_simp; rfl)); intro gb260 hg w26 hbox hb; have n0_ := Aside0.mk (Kd.R_below (by (with_reducible repeat (first | apply Kd.R_alloc | apply Kd.R_drewN | apply Kd.R_drew)); exact HO242.out) hb); have n1_ := Aside0.mk (Kd.R_below (by (with_reducible repeat (first | apply Kd.R_alloc | apply Kd.R_drewN | apply Kd.R_drew)); exact HO245.out) hb); have n2_ := Aside0.mk (Kd.R_below (by (with_reducible repeat (first | apply Kd.R_alloc | apply Kd.R_drewN | apply Kd.R_drew)); exact HO254.out) hb); have n3_ := Aside0.mk (Kd.R_below (by (with_reducible repeat (first | apply Kd.R_alloc | apply Kd.R_drewN | apply Kd.R_drew)); exact HO257.out) hb); have n4_ := Aside0.mk (blk_below (g := gb235) (o := .cells #[.int .i64 a0_0, .int .i64 a0_1, .int .i64 a0_2, .slice A0_3 l0_3.length c0_3, .slice A0_4 l0_4.length c0_4, .int .i64 a0_5, .int .i64 a0_6] 57 (0, 0)) (by (with_reducible repeat (first | refine blk_drewN ?_ _ | refine blk_drew ?_ | refine blk_alloc ?_ _)); exact BK235.out) hb); have n5_ := Aside0.mk (below_step (by repeat (first | (with_reducible first | exact HB.out | apply ba | apply bn | apply bd | refine bt ?_ GE235.out) | exact HB.out)) hb); have n6_ := Aside0.mk (hbox); have n7_ := Aside0.mk ((by rw [hg]; exact (below_size (by repeat (first | (with_reducible first | exact HB.out | apply ba | apply bn | apply bd | refine bt ?_ GE235.out) | exact HB.out))) : w.heap.size ≤ gb260)); have n8_ := Aside0.mk ((by rw [hg]; exact (below_size (by repeat (first | (with_reducible first | exact HB.out | apply ba | apply bn | apply bd | refine bt ?_ GE235.out) | exact HB.out))) : w.heap.size ≤ gb260)); have n9_ := Aside0.mk ((by rw [hg]; exact Nat.ne_of_lt (blk_lt (g := gb235) (o := .cells #[.int .i64 a0_0, .int .i64 a0_1, .int .i64 a0_2, .slice A0_3 l0_3.length c0_3, .slice A0_4 l0_4.length c0_4, .int .i64 a0_5, .int .i64 a0_6] 57 (0, 0)) (by (with_reducible repeat (first | refine blk_drewN ?_ _ | refine blk_drew ?_ | refine blk_alloc ?_ _)); exact BK235.out)) : gb235 ≠ gb260)); have n10_ := Aside0.mk ((by rw [hg]; exact Nat.ne_of_gt (blk_lt (g := gb235) (o := .cells #[.int .i64 a0_0, .int .i64 a0_1, .int .i64 a0_2, .slice A0_3 l0_3.length c0_3, .slice A0_4 l0_4.length c0_4, .int .i64 a0_5, .int .i64 a0_6] 57 (0, 0)) (by (with_reducible repeat (first | refine blk_drewN ?_ _ | refine blk_drew ?_ | refine blk_alloc ?_ _)); exact BK235.out)) : gb260 ≠ gb235)); clear HO242; clear HO245; clear HO254; clear HO257; clear BK235; clear HB; have HO242 := n0_; have HO245 := n1_; have HO254 := n2_; have HO257 := n3_; have BK235 := n4_; have HB := n5_; have BK260 := n6_; have GW260 := n7_; have GE260 := n8_; have NB235_260 := n9_; have NB260_235 := n10_; clear n0_ n1_ n2_ n3_ n4_ n5_ n6_ n7_ n8_ n9_ n10_; clear hb hbox hg; have hnb27 := NB260_235.out; have hnc27 := NB235_260.out; have hcz28_0 : w26.cell? ⟨gb260, 0, none⟩ = some (.int .i64 0) := cl BK260.out 0 rfl; have hcz28_1 : w26.cell? ⟨gb260, 1, none⟩ = some (.int .i64 0) := cl BK260.out 1 rfl; have hcz28_2 : w26.cell? ⟨gb260, 2, none⟩ = some (.int .i64 0) := cl BK260.out 2 rfl; have hcz28_3 : w26.cell? ⟨gb260, 3, none⟩ = some (.slice none 0 0) := cl BK260.out 3 rfl; have hcz28_4 : w26.cell? ⟨gb260, 4, none⟩ = some (.slice none 0 0) := cl BK260.out 4 rfl; have hcz28_5 : w26.cell? ⟨gb260, 5, none⟩ = some (.int .i64 0) := cl BK260.out 5 rfl; have hcz28_6 : w26.cell? ⟨gb260, 6, none⟩ = some (.int .i64 0) := cl BK260.out 6 rfl; have hfz28_0 := fz BK260.out 0; have hfz28_1 := fz BK260.out 1; have hfz28_2 := fz BK260.out 2; have hfz28_3 := fz BK260.out 3; have hfz28_4 := fz BK260.out 4; have hfz28_5 := fz BK260.out 5; have hfz28_6 := fz BK260.out 6; obtain ⟨Ao29, co29, eo29⟩ := Kd.R_slice HO254.out; subst eo29; obtain ⟨Ao30, co30, eo30⟩ := Kd.R_slice HO257.out; subst eo30) | ((with_reducible refine gate_callee (f := 34) rfl ?_); refine goesL_ (some 22) rfl rfl Try.func34 (by kernel_rfl) rfl #[.agg #[.int .i64 t249, .int .i64 t250, .int .i64 t251, .slice Ao29 t252.length co29, .slice Ao30 t255.length co30, .int .i64 t258, .int .i64 t259], .int .i64 a1] rfl (by (try simp only [List.map_toArray, List.map_cons, List.map_nil]); first | done | rfl | (simp only [List.length_drop, List.length_take]; rfl)) ?_; (with_reducible refine (impl_PlanMost.calls k t249 t250 t251 _ _ t252 _ _ t255 t258 t259 a1 t261 _ ?side1 ?side2 ?side3 ?side4 A11.out).mono ?_); (case side1 => refine (Kd.R_reads' (e := 123) (base := w.heap.size) (ok := fun k_ => (True ∧ some k_ ≠ (.slice Ao21 t240.length co21 : Value).ownBlock)) (n := t252.length) (c := co29) ?_).2.2; exact (by (with_reducible repeat (first | apply Kd.R_alloc | apply Kd.R_drewN | apply Kd.R_drew)); exact (Kd.R_mono (rF (rF (rF (rF (rF (rF (rF (Kd.R_types HO254.out BK260.out (by decide)) _ _) _ _) _ _) _ _) _ _) _ _) _ _) (fun _ h_ => h_.1)))); (case side2 => exact (Kd.R_reads' HO254.out).2.1); (case side3 => refine (Kd.R_reads' (e := 97) (base := w.heap.size) (ok := fun k_ => (True ∧ some k_ ≠ (.slice Ao22 t243.length co22 : Value).ownBlock)) (n := t255.length) (c := co30) ?_).2.2; exact (by (with_reducible repeat (first | apply Kd.R_alloc | apply Kd.R_drewN | apply Kd.R_drew)); exact (Kd.R_mono (rF (rF (rF (rF (rF (rF (rF (Kd.R_types HO257.out BK260.out (by decide)) _ _) _ _) _ _) _ _) _ _) _ _) _ _) (fun _ h_ => h_.1)))); (case side4 => exact (Kd.R_reads' HO257.out).2.1); rintro e w31 ⟨rfl, hb⟩; refine ⟨_, rfl, ?_⟩; have n0_ := Aside0.mk (Kd.R_below (by (with_reducible repeat (first | apply Kd.R_alloc | apply Kd.R_drewN | apply Kd.R_drew)); exact (Kd.R_mono (rF (rF (rF (rF (rF (rF (rF (Kd.R_types HO242.out BK260.out (by decide)) _ _) _ _) _ _) _ _) _ _) _ _) _ _) (fun _ h_ => h_.1))) hb); have n1_ := Aside0.mk (Kd.R_below (by (with_reducible repeat (first | apply Kd.R_alloc | apply Kd.R_drewN | apply Kd.R_drew)); exact (Kd.R_mono (rF (rF (rF (rF (rF (rF (rF (Kd.R_types HO245.out BK260.out (by decide)) _ _) _ _) _ _) _ _) _ _) _ _) _ _) (fun _ h_ => h_.1))) hb); have n2_ := Aside0.mk (Kd.R_below (by (with_reducible repeat (first | apply Kd.R_alloc | apply Kd.R_drewN | apply Kd.R_drew)); exact (Kd.R_mono (rF (rF (rF (rF (rF (rF (rF (Kd.R_types HO254.out BK260.out (by decide)) _ _) _ _) _ _) _ _) _ _) _ _) _ _) (fun _ h_ => h_.1))) hb); have n3_ := Aside0.mk (Kd.R_below (by (with_reducible repeat (first | apply Kd.R_alloc | apply Kd.R_drewN | apply Kd.R_drew)); exact (Kd.R_mono (rF (rF (rF (rF (rF (rF (rF (Kd.R_types HO257.out BK260.out (by decide)) _ _) _ _) _ _) _ _) _ _) _ _) _ _) (fun _ h_ => h_.1))) hb); have n4_ := Aside0.mk (blk_below (g := gb235) (o := .cells #[.int .i64 a0_0, .int .i64 a0_1, .int .i64 a0_2, .slice A0_3 l0_3.length c0_3, .slice A0_4 l0_4.length c0_4, .int .i64 a0_5, .int .i64 a0_6] 57 (0, 0)) (by (with_reducible repeat (first | refine blk_drewN ?_ _ | refine blk_drew ?_ | refine blk_alloc ?_ _)); refine blk_far ?_ NB235_260.out _; (with_reducible repeat (first | refine blk_drewN ?_ _ | refine blk_drew ?_ | refine blk_alloc ?_ _)); refine blk_far ?_ NB235_260.out _; (with_reducible repeat (first | refine blk_drewN ?_ _ | refine blk_drew ?_ | refine blk_alloc ?_ _)); refine blk_far ?_ NB235_260.out _; (with_reducible repeat (first | refine blk_drewN ?_ _ | refine blk_drew ?_ | refine blk_alloc ?_ _)); refine blk_far ?_ NB235_260.out _; (with_reducible repeat (first | refine blk_drewN ?_ _ | refine blk_drew ?_ | refine blk_alloc ?_ _)); refine blk_far ?_ NB235_260.out _; (with_reducible repeat (first | refine blk_drewN ?_ _ | refine blk_drew ?_ | refine blk_alloc ?_ _)); refine blk_far ?_ NB235_260.out _; (with_reducible repeat (first | refine blk_drewN ?_ _ | refine blk_drew ?_ | refine blk_alloc ?_ _)); refine blk_far ?_ NB235_260.out _; (with_reducible repeat (first | refine blk_drewN ?_ _ | refine blk_drew ?_ | refine blk_alloc ?_ _)); exact BK235.out) hb); have n5_ := Aside0.mk (blk_below (g := gb260) (o := .cells #[.int .i64 t249, .int .i64 t250, .int .i64 t251, .slice Ao29 t252.length co29, .slice Ao30 t255.length co30, .int .i64 t258, .int .i64 t259] 44 (0, 0)) (by (with_reducible repeat (first | refine blk_drewN ?_ _ | refine blk_drew ?_ | refine blk_alloc ?_ _)); refine blk_put (cs := #[.int .i64 t249, .int .i64 t250, .int .i64 t251, .slice Ao29 t252.length co29, .slice Ao30 t255.length co30, .int .i64 t258, .int .i64 0]) ?_ 6 _ rfl; (with_reducible repeat (first | refine blk_drewN ?_ _ | refine blk_drew ?_ | refine blk_alloc ?_ _)); refine blk_put (cs := #[.int .i64 t249, .int .i64 t250, .int .i64 t251, .slice Ao29 t252.length co29, .slice Ao30 t255.length co30, .int .i64 0, .int .i64 0]) ?_ 5 _ rfl; (with_reducible repeat (first | refine blk_drewN ?_ _ | refine blk_drew ?_ | refine blk_alloc ?_ _)); refine blk_put (cs := #[.int .i64 t249, .int .i64 t250, .int .i64 t251, .slice Ao29 t252.length co29, .slice none 0 0, .int .i64 0, .int .i64 0]) ?_ 4 _ rfl; (with_reducible repeat (first | refine blk_drewN ?_ _ | refine blk_drew ?_ | refine blk_alloc ?_ _)); refine blk_put (cs := #[.int .i64 t249, .int .i64 t250, .int .i64 t251, .slice none 0 0, .slice none 0 0, .int .i64 0, .int .i64 0]) ?_ 3 _ rfl; (with_reducible repeat (first | refine blk_drewN ?_ _ | refine blk_drew ?_ | refine blk_alloc ?_ _)); refine blk_put (cs := #[.int .i64 t249, .int .i64 t250, .int .i64 0, .slice none 0 0, .slice none 0 0, .int .i64 0, .int .i64 0]) ?_ 2 _ rfl; (with_reducible repeat (first | refine blk_drewN ?_ _ | refine blk_drew ?_ | refine blk_alloc ?_ _)); refine blk_put (cs := #[.int .i64 t249, .int .i64 0, .int .i64 0, .slice none 0 0, .slice none 0 0, .int .i64 0, .int .i64 0]) ?_ 1 _ rfl; (with_reducible repeat (first | refine blk_drewN ?_ _ | refine blk_drew ?_ | refine blk_alloc ?_ _)); refine blk_put (cs := #[.int .i64 0, .int .i64 0, .int .i64 0, .slice none 0 0, .slice none 0 0, .int .i64 0, .int .i64 0]) ?_ 0 _ rfl; (with_reducible repeat (first | refine blk_drewN ?_ _ | refine blk_drew ?_ | refine blk_alloc ?_ _)); exact BK260.out) hb); have n6_ := Aside0.mk (below_step (by repeat (first | (with_reducible first | exact HB.out | apply ba | apply bn | apply bd | refine bt ?_ GE235.out | refine bt ?_ GE260.out) | exact HB.out)) hb); clear HO242; clear HO245; clear HO254; clear HO257; clear BK235; clear BK260; clear HB; have HO242 := n0_; have HO245 := n1_; have HO254 := n2_; have HO257 := n3_; have BK235 := n4_; have BK260 := n5_; have HB := n6_; clear n0_ n1_ n2_ n3_ n4_ n5_ n6_; (try clear hb); (try clear hb2); (try clear hk); (try clear hi)))
    have n0_ := Aside0.mk (Kd.R_drew HO242.out)
    have n1_ := Aside0.mk (Kd.R_drew HO245.out)
    have n2_ := Aside0.mk (Kd.R_drew HO254.out)
    have n3_ := Aside0.mk (Kd.R_drew HO257.out)
    have n4_ := Aside0.mk (blk_drew BK235.out)
    have n5_ := Aside0.mk (blk_drew BK260.out)
    have n6_ := Aside0.mk (below_drew1 HB.out)
    clear HO242
    clear HO245
    clear HO254
    clear HO257
    clear BK235
    clear BK260
    clear HB
    have HO242 := n0_
    have HO245 := n1_
    have HO254 := n2_
    have HO257 := n3_
    have BK235 := n4_
    have BK260 := n5_
    have HB := n6_
    clear n0_ n1_ n2_ n3_ n4_ n5_ n6_
    refine start_ (n := 5) (S := fun w' => w'.cell? ⟨gb260, 0, none⟩ = some (.int .i64 t249) ∧ w'.cell? ⟨gb260, 1, none⟩ = some (.int .i64 t250) ∧ w'.cell? ⟨gb260, 2, none⟩ = some (.int .i64 t251) ∧ w'.cell? ⟨gb260, 3, none⟩ = some (.slice Ao29 t252.length co29) ∧ w'.cell? ⟨gb260, 4, none⟩ = some (.slice Ao30 t255.length co30) ∧ w'.cell? ⟨gb260, 5, none⟩ = some (.int .i64 t258) ∧ w'.cell? ⟨gb260, 6, none⟩ = some (.int .i64 t259) ∧ w'.cell? ⟨gb235, 0, none⟩ = some (.int .i64 a0_0) ∧ w'.cell? ⟨gb235, 1, none⟩ = some (.int .i64 a0_1) ∧ w'.cell? ⟨gb235, 2, none⟩ = some (.int .i64 a0_2) ∧ w'.cell? ⟨gb235, 3, none⟩ = some (.slice A0_3 l0_3.length c0_3) ∧ w'.cell? ⟨gb235, 4, none⟩ = some (.slice A0_4 l0_4.length c0_4) ∧ w'.cell? ⟨gb235, 5, none⟩ = some (.int .i64 a0_5) ∧ w'.cell? ⟨gb235, 6, none⟩ = some (.int .i64 a0_6)) (ds := []) #[false, false, false, false, false] (by kernel_rfl) rfl rfl ⟨cl BK260.out 0 rfl, cl BK260.out 1 rfl, cl BK260.out 2 rfl, cl BK260.out 3 rfl, cl BK260.out 4 rfl, cl BK260.out 5 rfl, cl BK260.out 6 rfl, cl BK235.out 0 rfl, cl BK235.out 1 rfl, cl BK235.out 2 rfl, cl BK235.out 3 rfl, cl BK235.out 4 rfl, cl BK235.out 5 rfl, cl BK235.out 6 rfl⟩ (fun hHeld => ?_)
    generalize w31.drew = w32 at HO242 HO245 HO254 HO257 BK235 BK260 HB hHeld ⊢
    refine take_ (i := 0) (N := some 26) (v := ?_) (a' := ?_) #[true, false, false, false, false] rfl rfl (by kernel_rfl) (fun _ _ _ h => h) (Or.inl ⟨by rfl, ?_⟩) hHeld ?_ ?_
    rotate_left
    ·rintro w' ⟨s0, s1, s2, s3, s4, s5, s6, s7, s8, s9, s10, s11, s12, s13⟩
     go_simp
     with_reducible rfl
    rotate_left
    ·simp only [Act.put, List.setIfInBounds_toArray, List.set_cons_zero, List.set_cons_succ, i64_w, i32_w]
     rfl
    refine take_ (i := 1) (N := some 27) (v := ?_) (a' := ?_) #[true, true, false, false, false] rfl rfl (by kernel_rfl) (fun _ _ _ h => h) (Or.inl ⟨by rfl, ?_⟩) hHeld ?_ ?_
    rotate_left
    ·rintro w' ⟨s0, s1, s2, s3, s4, s5, s6, s7, s8, s9, s10, s11, s12, s13⟩
     go_simp
     with_reducible rfl
    rotate_left
    ·simp only [Act.put, List.setIfInBounds_toArray, List.set_cons_zero, List.set_cons_succ, i64_w, i32_w]
     rfl
    refine one_ (i := 2) (N := some 28) #[true, true, true, false, false] rfl rfl (by kernel_rfl) (by decide) (fun K hK => ?_)
    refine goes_ Try.func29 (by kernel_rfl) rfl #[.agg #[.int .i64 a0_0, .int .i64 a0_1, .int .i64 a0_2, .slice A0_3 l0_3.length c0_3, .slice A0_4 l0_4.length c0_4, .int .i64 a0_5, .int .i64 a0_6]] (by rfl) rfl rfl (by (try simp only [List.map_toArray, List.map_cons, List.map_nil]); first | done | rfl | (simp only [List.length_drop, List.length_take]; rfl)) ?_
    with_reducible refine (laws_toPlan.calls k a0_0 a0_1 a0_2 _ _ l0_3 _ _ l0_4 a0_5 a0_6 t262 t263 t264 t265 t268 t271 t272 _ ?side1 ?side2 ?side3 ?side4 A13.out).mono ?_
    (case side1 => repeat (first | exact (Kd.C_below HR0_3.out HB.out) | (with_reducible refine Kd.C_alloc ?_ _) | (with_reducible refine Kd.C_drewN ?_ _) | (with_reducible refine Kd.C_drew ?_)))
    (case side2 => exact HC0_3.out)
    (case side3 => repeat (first | exact (Kd.C_below HR0_4.out HB.out) | (with_reducible refine Kd.C_alloc ?_ _) | (with_reducible refine Kd.C_drewN ?_ _) | (with_reducible refine Kd.C_drew ?_)))
    (case side4 => exact HC0_4.out)
    rintro e w33 ⟨v266, v269, rfl, ho0, ho1, hb⟩
    refine ⟨_, rfl, ?_⟩
    have n0_ := Aside0.mk (Kd.R_elder' (by (with_reducible repeat (first | apply Kd.R_alloc | apply Kd.R_drewN | apply Kd.R_drew)); exact HO242.out) (Kd.R_base ho0) hb)
    have n1_ := Aside0.mk (Kd.R_elder' (by (with_reducible repeat (first | apply Kd.R_alloc | apply Kd.R_drewN | apply Kd.R_drew)); exact HO245.out) (Kd.R_base ho1) hb)
    have n2_ := Aside0.mk (Kd.R_elder' (by (with_reducible repeat (first | apply Kd.R_alloc | apply Kd.R_drewN | apply Kd.R_drew)); exact HO254.out) (Kd.R_base ho0) hb)
    have n3_ := Aside0.mk (Kd.R_elder' (by (with_reducible repeat (first | apply Kd.R_alloc | apply Kd.R_drewN | apply Kd.R_drew)); exact HO257.out) (Kd.R_base ho1) hb)
    have n4_ := Aside0.mk (Kd.R_lower (Kd.R_new' (Kd.R_new' ho0 (Kd.R_lt (by (with_reducible repeat (first | apply Kd.R_alloc | apply Kd.R_drewN | apply Kd.R_drew)); exact HO242.out))) (Kd.R_lt (by (with_reducible repeat (first | apply Kd.R_alloc | apply Kd.R_drewN | apply Kd.R_drew)); exact HO254.out))) (below_size (by repeat (first | (with_reducible first | exact HB.out | apply ba | apply bn | apply bd | refine bt ?_ GE235.out | refine bt ?_ GE260.out) | exact HB.out))))
    have n5_ := Aside0.mk (Kd.R_lower (Kd.R_new' (Kd.R_new' ho1 (Kd.R_lt (by (with_reducible repeat (first | apply Kd.R_alloc | apply Kd.R_drewN | apply Kd.R_drew)); exact HO245.out))) (Kd.R_lt (by (with_reducible repeat (first | apply Kd.R_alloc | apply Kd.R_drewN | apply Kd.R_drew)); exact HO257.out))) (below_size (by repeat (first | (with_reducible first | exact HB.out | apply ba | apply bn | apply bd | refine bt ?_ GE235.out | refine bt ?_ GE260.out) | exact HB.out))))
    have n6_ := Aside0.mk (blk_below (g := gb235) (o := .cells #[.int .i64 a0_0, .int .i64 a0_1, .int .i64 a0_2, .slice A0_3 l0_3.length c0_3, .slice A0_4 l0_4.length c0_4, .int .i64 a0_5, .int .i64 a0_6] 57 (0, 0)) (by (with_reducible repeat (first | refine blk_drewN ?_ _ | refine blk_drew ?_ | refine blk_alloc ?_ _)); exact BK235.out) hb)
    have n7_ := Aside0.mk (blk_below (g := gb260) (o := .cells #[.int .i64 t249, .int .i64 t250, .int .i64 t251, .slice Ao29 t252.length co29, .slice Ao30 t255.length co30, .int .i64 t258, .int .i64 t259] 44 (0, 0)) (by (with_reducible repeat (first | refine blk_drewN ?_ _ | refine blk_drew ?_ | refine blk_alloc ?_ _)); exact BK260.out) hb)
    have n8_ := Aside0.mk (below_step (by repeat (first | (with_reducible first | exact HB.out | apply ba | apply bn | apply bd | refine bt ?_ GE235.out | refine bt ?_ GE260.out) | exact HB.out)) hb)
    clear HO242
    clear HO245
    clear HO254
    clear HO257
    clear BK235
    clear BK260
    clear HB
    have HO242 := n0_
    have HO245 := n1_
    have HO254 := n2_
    have HO257 := n3_
    have HO267 := n4_
    have HO270 := n5_
    have BK235 := n6_
    have BK260 := n7_
    have HB := n8_
    clear n0_ n1_ n2_ n3_ n4_ n5_ n6_ n7_ n8_
    (try clear hb)
    (try clear hb2)
    (try clear hk)
    (try clear hi)
    (try clear ho0)
    (try clear ho1)
    obtain ⟨Ao34, co34, eo34⟩ := Kd.R_slice HO267.out
    (first | subst eo34 | (injection eo34 with f1_ f2_ f3_; have f4_ := f1_.symm; have f5_ := f3_.symm; clear f1_ f2_ f3_; subst f4_; subst f5_))
    obtain ⟨Ao35, co35, eo35⟩ := Kd.R_slice HO270.out
    (first | subst eo35 | (injection eo35 with f1_ f2_ f3_; have f4_ := f1_.symm; have f5_ := f3_.symm; clear f1_ f2_ f3_; subst f4_; subst f5_))
    refine hK.out _ _ ⟨cl BK260.out 0 rfl, cl BK260.out 1 rfl, cl BK260.out 2 rfl, cl BK260.out 3 rfl, cl BK260.out 4 rfl, cl BK260.out 5 rfl, cl BK260.out 6 rfl, cl BK235.out 0 rfl, cl BK235.out 1 rfl, cl BK235.out 2 rfl, cl BK235.out 3 rfl, cl BK235.out 4 rfl, cl BK235.out 5 rfl, cl BK235.out 6 rfl⟩ (fun hHeld => ?_)
    clear hK K
    refine norm_ (a' := ?_) ?_ ?_
    rotate_left
    ·show Act.put _ (some 28) _ = _
     simp only [Act.put, List.setIfInBounds_toArray, List.set_cons_zero, List.set_cons_succ, i64_w, i32_w]
     rfl
    refine one_ (i := 3) (N := some 29) #[true, true, true, true, false] rfl rfl (by kernel_rfl) (by decide) (fun K hK => ?_)
    refine goes_ Try.func19 (by kernel_rfl) rfl #[.agg #[.int .i64 t249, .int .i64 t250, .int .i64 t251, .slice Ao29 t252.length co29, .slice Ao30 t255.length co30, .int .i64 t258, .int .i64 t259], .agg #[.int .i64 t262, .int .i64 t263, .int .i64 t264, .slice Ao34 t265.length co34, .slice Ao35 t268.length co35, .int .i64 t271, .int .i64 t272]] (by rfl) rfl rfl (by (try simp only [List.map_toArray, List.map_cons, List.map_nil]); first | done | rfl | (simp only [List.length_drop, List.length_take]; rfl)) ?_
    with_reducible refine (laws_eqPlan.calls k t249 t250 t251 _ _ t252 _ _ t255 t258 t259 t262 t263 t264 _ _ t265 _ _ t268 t271 t272 true _ rfl ?side1 ?side2 ?side3 ?side4 ?side5 ?side6 ?side7 ?side8 A14.out).mono ?_
    (case side1 => repeat (first | exact (Kd.R_reads' HO254.out).2.2 | (with_reducible refine Kd.C_alloc ?_ _) | (with_reducible refine Kd.C_drewN ?_ _) | (with_reducible refine Kd.C_drew ?_)))
    (case side2 => exact (Kd.R_reads' HO254.out).2.1)
    (case side3 => repeat (first | exact (Kd.R_reads' HO257.out).2.2 | (with_reducible refine Kd.C_alloc ?_ _) | (with_reducible refine Kd.C_drewN ?_ _) | (with_reducible refine Kd.C_drew ?_)))
    (case side4 => exact (Kd.R_reads' HO257.out).2.1)
    (case side5 => repeat (first | exact (Kd.R_reads' HO267.out).2.2 | (with_reducible refine Kd.C_alloc ?_ _) | (with_reducible refine Kd.C_drewN ?_ _) | (with_reducible refine Kd.C_drew ?_)))
    (case side6 => exact (Kd.R_reads' HO267.out).2.1)
    (case side7 => repeat (first | exact (Kd.R_reads' HO270.out).2.2 | (with_reducible refine Kd.C_alloc ?_ _) | (with_reducible refine Kd.C_drewN ?_ _) | (with_reducible refine Kd.C_drew ?_)))
    (case side8 => exact (Kd.R_reads' HO270.out).2.1)
    rintro e w36 ⟨rfl, hb⟩
    refine ⟨_, rfl, ?_⟩
    have n0_ := Aside0.mk (Kd.R_below (by (with_reducible repeat (first | apply Kd.R_alloc | apply Kd.R_drewN | apply Kd.R_drew)); exact HO242.out) hb)
    have n1_ := Aside0.mk (Kd.R_below (by (with_reducible repeat (first | apply Kd.R_alloc | apply Kd.R_drewN | apply Kd.R_drew)); exact HO245.out) hb)
    have n2_ := Aside0.mk (Kd.R_below (by (with_reducible repeat (first | apply Kd.R_alloc | apply Kd.R_drewN | apply Kd.R_drew)); exact HO254.out) hb)
    have n3_ := Aside0.mk (Kd.R_below (by (with_reducible repeat (first | apply Kd.R_alloc | apply Kd.R_drewN | apply Kd.R_drew)); exact HO257.out) hb)
    have n4_ := Aside0.mk (Kd.R_below (by (with_reducible repeat (first | apply Kd.R_alloc | apply Kd.R_drewN | apply Kd.R_drew)); exact HO267.out) hb)
    have n5_ := Aside0.mk (Kd.R_below (by (with_reducible repeat (first | apply Kd.R_alloc | apply Kd.R_drewN | apply Kd.R_drew)); exact HO270.out) hb)
    have n6_ := Aside0.mk (blk_below (g := gb235) (o := .cells #[.int .i64 a0_0, .int .i64 a0_1, .int .i64 a0_2, .slice A0_3 l0_3.length c0_3, .slice A0_4 l0_4.length c0_4, .int .i64 a0_5, .int .i64 a0_6] 57 (0, 0)) (by (with_reducible repeat (first | refine blk_drewN ?_ _ | refine blk_drew ?_ | refine blk_alloc ?_ _)); exact BK235.out) hb)
    have n7_ := Aside0.mk (blk_below (g := gb260) (o := .cells #[.int .i64 t249, .int .i64 t250, .int .i64 t251, .slice Ao29 t252.length co29, .slice Ao30 t255.length co30, .int .i64 t258, .int .i64 t259] 44 (0, 0)) (by (with_reducible repeat (first | refine blk_drewN ?_ _ | refine blk_drew ?_ | refine blk_alloc ?_ _)); exact BK260.out) hb)
    have n8_ := Aside0.mk (below_step (by repeat (first | (with_reducible first | exact HB.out | apply ba | apply bn | apply bd | refine bt ?_ GE235.out | refine bt ?_ GE260.out) | exact HB.out)) hb)
    clear HO242
    clear HO245
    clear HO254
    clear HO257
    clear HO267
    clear HO270
    clear BK235
    clear BK260
    clear HB
    have HO242 := n0_
    have HO245 := n1_
    have HO254 := n2_
    have HO257 := n3_
    have HO267 := n4_
    have HO270 := n5_
    have BK235 := n6_
    have BK260 := n7_
    have HB := n8_
    clear n0_ n1_ n2_ n3_ n4_ n5_ n6_ n7_ n8_
    (try clear hb)
    (try clear hb2)
    (try clear hk)
    (try clear hi)
    refine hK.out _ _ ⟨cl BK260.out 0 rfl, cl BK260.out 1 rfl, cl BK260.out 2 rfl, cl BK260.out 3 rfl, cl BK260.out 4 rfl, cl BK260.out 5 rfl, cl BK260.out 6 rfl, cl BK235.out 0 rfl, cl BK235.out 1 rfl, cl BK235.out 2 rfl, cl BK235.out 3 rfl, cl BK235.out 4 rfl, cl BK235.out 5 rfl, cl BK235.out 6 rfl⟩ (fun hHeld => ?_)
    clear hK K
    refine norm_ (a' := ?_) ?_ ?_
    rotate_left
    ·show Act.put _ (some 29) _ = _
     simp only [Act.put, List.setIfInBounds_toArray, List.set_cons_zero, List.set_cons_succ, i64_w, i32_w]
     rfl
    refine pure_ (i := 4) (N := some 30) (v := ?_) (a' := ?_) #[true, true, true, true, true] rfl rfl (by kernel_rfl) (fun _ _ _ h => h) (Or.inl ⟨by rfl, ?_⟩) ?_ ?_
    rotate_left
    ·intro w'
     go_simp
     with_reducible rfl
    rotate_left
    ·simp only [Act.put, List.setIfInBounds_toArray, List.set_cons_zero, List.set_cons_succ, i64_w, i32_w]
     rfl
    refine done_ (by kernel_rfl) ?_
    try go_wp2
    go_ret
    exact ⟨by first | rfl | (simp [errW_none, errW_some] <;> rfl) | (simp [*, errW_none, errW_some] <;> rfl), by repeat (first | (with_reducible first | exact HB.out | apply ba | apply bn | apply bd | refine bt ?_ GE235.out | refine bt ?_ GE260.out) | exact HB.out)⟩
   ·replace c15 := Bool.eq_false_iff.mpr c15
    subst c15
    have H1 : (some false) = some r := by rw [if_neg (show ¬ (false = true) by decide)] at H; exact H
    clear H
    have H := H1
    clear H1
    exact absurd (Option.some.inj H) (by rw [HTR.out]; decide)

end Go.Proofs.Ytidhlpaoncneiaa.PFnExactPlanMost
