/- Printed by a program of this session over the kit's print, for function values too. Lean checks it. -/
import Derived.Test.YtekhlpkodgjdeaaPFnExactTableLeavex0
import Derived.Test.YtekhlpkodgjdeaaPFnExactTableLeavex3
namespace Go.Proofs.Ytekhlpkodgjdeaa.PFnExactTableLeave
open Go.RowKit Go.Proofs.YtekhlpkodgjdeaaH Go.Proofs.YtekhlpkodgjdeaaW.PrintWords Go.Proofs.YtekhlpkodgjdeaaW.PrintLast Go.Proofs.YtekhlpkodgjdeaaW.PrintMore
attribute [local go_sem] max2_int min2_int max_two min_two max_three min_three max_four min_four   -- for this text's walks alone
set_option linter.unusedVariables false
set_option linter.unusedSimpArgs false

/-! ### impl_TableOk: function 20 -/
def impl_TableOk.l0 : Nat → Int → List (S40) → Int → Int → Int → Int → List (S40) → Option (Bool)
 | 0, _, _, _, _, _, _, _ => none
 | k + 1, x3, x7, x8, x9, x206000, x206001, x206002 => if x9 < x8 then (if 0 ≤ x9 then (if x9 < (x7.length : Int) then (if ((rd_T40 x7 x9).f0) = x3 then ((impl_in.f ((rd_T40 x7 x9).f1) (wrap64 (x3 + 1)) 40).bind fun t211 => (if t211 = true then ((impl_has.f x206001 ((rd_T40 x7 x9).f2)).bind fun t212 => (if t212 = true then (impl_TableOk.l0 k ((rd_T40 x7 x9).f1) x7 x8 (wrap64 (x9 + 1)) x206000 x206001 x206002) else (some false))) else (some false))) else (some false)) else (none)) else (none)) else ((impl_in.f x206000 1 9999).bind fun t206 => (if t206 = true then ((impl_in.f x206001 1 31).bind fun t207 => (if t207 = true then ((impl_in.f (x206002.length : Int) 1 8).bind fun t208 => (if t208 = true then (some (x3 == 40)) else (some false))) else (some false))) else (some false)))
def impl_TableOk.f (k : Nat) (a0_0 : Int) (a0_1 : Int) (l0_2 : List (S40)) : Option (Bool) := impl_TableOk.l0 k 0 l0_2 (l0_2.length : Int) 0 a0_0 a0_1 l0_2
theorem impl_TableOk.mono_l : ∀ k, (∀ y0 y1 y2 y3 y4 y5 y6, LeO (impl_TableOk.l0 k y0 y1 y2 y3 y4 y5 y6) (impl_TableOk.l0 (k + 1) y0 y1 y2 y3 y4 y5 y6))
 | 0 => fun _ _ _ _ _ _ _ r h => by simp [impl_TableOk.l0] at h
 | k + 1 => by
  have ih0 := impl_TableOk.mono_l k
  ·intro y0 y1 y2 y3 y4 y5 y6
   unfold impl_TableOk.l0
   repeat' first
   | (with_reducible exact ih0 _ _ _ _ _ _ _)
   | (with_reducible exact LeO.refl _)
   | (with_reducible exact LeO.none _)
   | (with_reducible refine LeO.ite ?_ ?_)
   | (with_reducible refine LeO.bind ?_ (fun _ => ?_))
   | exact ih0 _ _ _ _ _ _ _
   | exact LeO.none _
   | refine LeO.ite ?_ ?_
   | refine LeO.bind ?_ (fun _ => ?_)
theorem impl_TableOk.mono : ∀ a0 a1 a2 k, LeO (impl_TableOk.f k a0 a1 a2) (impl_TableOk.f (k + 1) a0 a1 a2) := by
 intro a0 a1 a2 k
 have ih0 := impl_TableOk.mono_l k
 unfold impl_TableOk.f
 repeat' first
   | (with_reducible exact ih0 _ _ _ _ _ _ _)
   | (with_reducible exact LeO.refl _)
   | (with_reducible exact LeO.none _)
   | (with_reducible refine LeO.ite ?_ ?_)
   | (with_reducible refine LeO.bind ?_ (fun _ => ?_))
   | exact ih0 _ _ _ _ _ _ _
   | exact LeO.none _
   | refine LeO.ite ?_ ?_
   | refine LeO.bind ?_ (fun _ => ?_)
set_option maxHeartbeats 8000000 in
set_option maxRecDepth 100000 in
theorem impl_TableOk.calls (k : Nat) (a0_0 : Int) (a0_1 : Int) (A0_2 : Option Addr) (c0_2 : Nat) (l0_2 : List (S40)) (r : Bool) (w : World) (hr0_2 : Kd.C k40 w A0_2 l0_2.length l0_2) (hc0_2 : l0_2.length ≤ c0_2) (h : impl_TableOk.f k a0_0 a0_1 l0_2 = some r) :
  Calls Try.prog 20 #[.agg #[.int .i64 a0_0, .int .i64 a0_1, .slice A0_2 l0_2.length c0_2]] w fun e w' => e = .returned (.bool r) ∧ Below w.heap.size w w' := by
 have hu29 := Try.underlying29
 have hu40 := Try.underlying40
 have HR0_2 := Aside0.mk hr0_2
 have HC0_2 := Aside0.mk hc0_2
 clear hr0_2 hc0_2
 have HB := Aside0.mk (Below.refl w.heap.size w)
 have H : (impl_TableOk.l0 k 0 l0_2 (l0_2.length : Int) 0 a0_0 a0_1 l0_2) = some r := h
 clear h
 have H' := Aside0.mk H
 clear H
 go_enter Try.func20, Try.ntmps20
 go_wp2_with (first | ((with_reducible refine gate_dst (N := 1) rfl ?_); (try (refine gate_guard (by rfl) ?_; dsimp only)); refine box_event ?hg (N := 1) ?hd (cs := #[.int .i64 a0_0, .int .i64 a0_1, .slice A0_2 l0_2.length c0_2]) (t := 29) ?hr ?_; (case hd => rfl); (case hg => rfl); (case hr => first | (go_simp; done) | (go_simp; rfl)); intro gb205 hg w2 hbox hb; have n0_ := Aside0.mk (below_step (by repeat (first | (with_reducible first | exact HB.out | apply ba | apply bn | apply bd) | exact HB.out)) hb); have n1_ := Aside0.mk (hbox); have n2_ := Aside0.mk ((by rw [hg]; exact (below_size (by repeat (first | (with_reducible first | exact HB.out | apply ba | apply bn | apply bd) | exact HB.out))) : w.heap.size ≤ gb205)); have n3_ := Aside0.mk ((by rw [hg]; exact (below_size (by repeat (first | (with_reducible first | exact HB.out | apply ba | apply bn | apply bd) | exact HB.out))) : w.heap.size ≤ gb205)); clear HB; have HB := n0_; have BK205 := n1_; have GW205 := n2_; have GE205 := n3_; clear n0_ n1_ n2_ n3_; clear hb hbox hg; have hcz3_0 : w2.cell? ⟨gb205, 0, none⟩ = some (.int .i64 a0_0) := cl BK205.out 0 rfl; have hcz3_1 : w2.cell? ⟨gb205, 1, none⟩ = some (.int .i64 a0_1) := cl BK205.out 1 rfl; have hcz3_2 : w2.cell? ⟨gb205, 2, none⟩ = some (.slice A0_2 l0_2.length c0_2) := cl BK205.out 2 rfl; have hfz3_0 := fz BK205.out 0; have hfz3_1 := fz BK205.out 1; have hfz3_2 := fz BK205.out 2))
 go_loopg [3, 9] k (fun kq v3 v9 w' => ∃ (x3_1 : Int) (x9_1 : Int), v3 = .int .i64 x3_1 ∧ v9 = .int .i64 x9_1 ∧ Aside0 (impl_TableOk.l0 kq x3_1 l0_2 (l0_2.length : Int) x9_1 a0_0 a0_1 l0_2 = some r) ∧ Aside0 (kq ≤ k) ∧ Aside0 (w'.heap[gb205]? = some (.cells #[.int .i64 a0_0, .int .i64 a0_1, (.slice A0_2 l0_2.length c0_2)] 29 (0, 0))) ∧ Aside0 (Below w.heap.size w w'))
 case atStart => exact ⟨(0), (0), (by first | rfl | (simp; done) | (simp [*]; done)), (by first | rfl | (simp; done) | (simp [*]; done)), H', ⟨Nat.le_refl _⟩, ⟨by (with_reducible repeat (first | refine blk_drewN ?_ _ | refine blk_drew ?_ | refine blk_alloc ?_ _)); exact BK205.out⟩, ⟨by repeat (first | (with_reducible first | exact HB.out | apply ba | apply bn | apply bd | refine bt ?_ GE205.out) | exact HB.out)⟩⟩
 case round =>
  clear H'
  try clear c2
  try clear p2
  try clear hcz3_0
  try clear hcz3_1
  try clear hcz3_2
  try clear hfz3_0
  try clear hfz3_1
  try clear hfz3_2
  obtain ⟨x3_1, x9_1, rfl, rfl, HA, HK1, BK205, HB⟩ := hrel
  cases gk with
  | zero => exact absurd HA.out (by simp [impl_TableOk.l0])
  | succ k1 =>
   have H := HA.out
   clear HA
   simp only [impl_TableOk.l0] at H
   by_cases c4 : x9_1 < (l0_2.length : Int)
   ·rw [if_pos c4] at H
    have c4b0 : decide (x9_1 < (l0_2.length : Int)) = true := decide_eq_true c4
    clear c4
    by_cases c5 : 0 ≤ x9_1
    ·rw [if_pos c5] at H
     have c5b0 : decide (0 ≤ x9_1) = true := decide_eq_true c5
     clear c5
     by_cases c6 : x9_1 < (l0_2.length : Int)
     ·rw [if_pos c6] at H
      have c6b0 : decide (x9_1 < (l0_2.length : Int)) = true := decide_eq_true c6
      clear c6
      by_cases c7 : ((rd_T40 l0_2 x9_1).f0) = x3_1
      ·rw [if_pos c7] at H
       have c7b0 : (((rd_T40 l0_2 x9_1).f0) == x3_1) = true := beq_iff_eq.mpr c7
       have c7b1 : (((rd_T40 l0_2 x9_1).f0) != x3_1) = false := bne_eq_false_iff_eq.mpr c7
       clear c7
       replace H := Option.bind_eq_some_iff.mp H
       obtain ⟨t211, A80, H⟩ := H
       replace H : (if t211 = true then ((impl_has.f a0_1 ((rd_T40 l0_2 x9_1).f2)).bind fun t212 => (if t212 = true then (impl_TableOk.l0 k1 ((rd_T40 l0_2 x9_1).f1) l0_2 (l0_2.length : Int) (wrap64 (x9_1 + 1)) a0_0 a0_1 l0_2) else (some false))) else (some false)) = some r := H
       have A8 := Aside0.mk A80
       clear A80
       by_cases c9 : t211 = true
       ·subst c9
        have H1 : ((impl_has.f a0_1 ((rd_T40 l0_2 x9_1).f2)).bind fun t212 => (if t212 = true then (impl_TableOk.l0 k1 ((rd_T40 l0_2 x9_1).f1) l0_2 (l0_2.length : Int) (wrap64 (x9_1 + 1)) a0_0 a0_1 l0_2) else (some false))) = some r := by rw [if_pos rfl] at H; exact H
        clear H
        have H := H1
        clear H1
        replace H := Option.bind_eq_some_iff.mp H
        obtain ⟨t212, A100, H⟩ := H
        replace H : (if t212 = true then (impl_TableOk.l0 k1 ((rd_T40 l0_2 x9_1).f1) l0_2 (l0_2.length : Int) (wrap64 (x9_1 + 1)) a0_0 a0_1 l0_2) else (some false)) = some r := H
        have A10 := Aside0.mk A100
        clear A100
        by_cases c11 : t212 = true
        ·subst c11
         have H1 : (impl_TableOk.l0 k1 ((rd_T40 l0_2 x9_1).f1) l0_2 (l0_2.length : Int) (wrap64 (x9_1 + 1)) a0_0 a0_1 l0_2) = some r := by rw [if_pos rfl] at H; exact H
         clear H
         have H := H1
         clear H1
         have H' := Aside0.mk H
         clear H
         have p209 : 0 ≤ (x9_1 : Int) := of_decide_eq_true (by first | (with_reducible assumption) | assumption)
         have q209 : x9_1 < (l0_2.length : Int) := of_decide_eq_true (by first | (with_reducible assumption) | assumption)
         obtain ⟨ad209, e209, hx209_0, hx209_1, hx209_2⟩ := at_T40 HR0_2.out x9_1 p209 q209
         cases e209
         replace hx209_0 := tc HB.out hx209_0
         replace hx209_1 := tc HB.out hx209_1
         replace hx209_2 := tc HB.out hx209_2
         replace p209 := eq_true p209
         replace q209 := eq_true q209
         go_wp2_with (first | ((with_reducible refine gate_dst (N := 5) rfl ?_); (try (refine gate_guard (by rfl) ?_; dsimp only)); refine box_event ?hg (N := 5) ?hd (cs := #[.int .i64 0, .int .i64 0, .int .i64 0]) (t := 40) ?hr ?_; (case hd => rfl); (case hg => rfl); (case hr => first | (go_simp; done) | (go_simp; rfl)); intro gb210 hg w12 hbox hb; have n0_ := Aside0.mk (blk_below (g := gb205) (o := .cells #[.int .i64 a0_0, .int .i64 a0_1, .slice (some ad209) l0_2.length c0_2] 29 (0, 0)) (by (with_reducible repeat (first | refine blk_drewN ?_ _ | refine blk_drew ?_ | refine blk_alloc ?_ _)); exact BK205.out) hb); have n1_ := Aside0.mk (below_step (by repeat (first | (with_reducible first | exact HB.out | apply ba | apply bn | apply bd | refine bt ?_ GE205.out) | exact HB.out)) hb); have n2_ := Aside0.mk (hbox); have n3_ := Aside0.mk ((by rw [hg]; exact (below_size (by repeat (first | (with_reducible first | exact HB.out | apply ba | apply bn | apply bd | refine bt ?_ GE205.out) | exact HB.out))) : w.heap.size ≤ gb210)); have n4_ := Aside0.mk ((by rw [hg]; exact (below_size (by repeat (first | (with_reducible first | exact HB.out | apply ba | apply bn | apply bd | refine bt ?_ GE205.out) | exact HB.out))) : w.heap.size ≤ gb210)); have n5_ := Aside0.mk ((by rw [hg]; exact Nat.ne_of_lt (blk_lt (g := gb205) (o := .cells #[.int .i64 a0_0, .int .i64 a0_1, .slice (some ad209) l0_2.length c0_2] 29 (0, 0)) (by (with_reducible repeat (first | refine blk_drewN ?_ _ | refine blk_drew ?_ | refine blk_alloc ?_ _)); exact BK205.out)) : gb205 ≠ gb210)); have n6_ := Aside0.mk ((by rw [hg]; exact Nat.ne_of_gt (blk_lt (g := gb205) (o := .cells #[.int .i64 a0_0, .int .i64 a0_1, .slice (some ad209) l0_2.length c0_2] 29 (0, 0)) (by (with_reducible repeat (first | refine blk_drewN ?_ _ | refine blk_drew ?_ | refine blk_alloc ?_ _)); exact BK205.out)) : gb210 ≠ gb205)); clear BK205; clear HB; have BK205 := n0_; have HB := n1_; have BK210 := n2_; have GW210 := n3_; have GE210 := n4_; have NB205_210 := n5_; have NB210_205 := n6_; clear n0_ n1_ n2_ n3_ n4_ n5_ n6_; clear hb hbox hg; have hnb13 := NB210_205.out; have hnc13 := NB205_210.out; have hcz14_0 : w12.cell? ⟨gb210, 0, none⟩ = some (.int .i64 0) := cl BK210.out 0 rfl; have hcz14_1 : w12.cell? ⟨gb210, 1, none⟩ = some (.int .i64 0) := cl BK210.out 1 rfl; have hcz14_2 : w12.cell? ⟨gb210, 2, none⟩ = some (.int .i64 0) := cl BK210.out 2 rfl; have hfz14_0 := fz BK210.out 0; have hfz14_1 := fz BK210.out 1; have hfz14_2 := fz BK210.out 2) | (go_at_call 49; (with_reducible refine (impl_in.calls ((rd_T40 l0_2 x9_1).f1) (wrap64 (x3_1 + 1)) 40 true _ A8.out).mono ?_); rintro e w' ⟨rfl, ⟨nd, rfl⟩⟩; have hcz15_0 : w12.cell? ⟨gb205, 0, none⟩ = some (.int .i64 a0_0) := cl BK205.out 0 rfl; have hcz15_1 : w12.cell? ⟨gb205, 1, none⟩ = some (.int .i64 a0_1) := cl BK205.out 1 rfl; have hcz15_2 : w12.cell? ⟨gb205, 2, none⟩ = some (.slice (some ad209) l0_2.length c0_2) := cl BK205.out 2 rfl; have hfz15_0 := fz BK205.out 0; have hfz15_1 := fz BK205.out 1; have hfz15_2 := fz BK205.out 2) | (go_at_call 50; (with_reducible refine (impl_has.calls a0_1 ((rd_T40 l0_2 x9_1).f2) true _ A10.out).mono ?_); rintro e w' ⟨rfl, ⟨nd, rfl⟩⟩))
         go_roundg k1
         case measure => have := HK1.out; omega
         case rel => exact ⟨((rd_T40 l0_2 x9_1).f1), (wrap64 (x9_1 + 1)), (by first | rfl | (simp; done) | (simp [*]; done)), (by first | rfl | (simp; done) | (simp [*]; done)), H', ⟨by have := HK1.out; omega⟩, ⟨by (with_reducible repeat (first | refine blk_drewN ?_ _ | refine blk_drew ?_ | refine blk_alloc ?_ _)); refine blk_far ?_ NB205_210.out _; (with_reducible repeat (first | refine blk_drewN ?_ _ | refine blk_drew ?_ | refine blk_alloc ?_ _)); refine blk_far ?_ NB205_210.out _; (with_reducible repeat (first | refine blk_drewN ?_ _ | refine blk_drew ?_ | refine blk_alloc ?_ _)); refine blk_far ?_ NB205_210.out _; (with_reducible repeat (first | refine blk_drewN ?_ _ | refine blk_drew ?_ | refine blk_alloc ?_ _)); exact BK205.out⟩, ⟨by repeat (first | (with_reducible first | exact HB.out | apply ba | apply bn | apply bd | refine bt ?_ GE205.out | refine bt ?_ GE210.out) | exact HB.out)⟩⟩
        ·replace c11 := Bool.eq_false_iff.mpr c11
         subst c11
         have H1 : (some false) = some r := by rw [if_neg (show ¬ (false = true) by decide)] at H; exact H
         clear H
         have H := H1
         clear H1
         obtain rfl := Option.some.inj H
         have p209 : 0 ≤ (x9_1 : Int) := of_decide_eq_true (by first | (with_reducible assumption) | assumption)
         have q209 : x9_1 < (l0_2.length : Int) := of_decide_eq_true (by first | (with_reducible assumption) | assumption)
         obtain ⟨ad209, e209, hx209_0, hx209_1, hx209_2⟩ := at_T40 HR0_2.out x9_1 p209 q209
         cases e209
         replace hx209_0 := tc HB.out hx209_0
         replace hx209_1 := tc HB.out hx209_1
         replace hx209_2 := tc HB.out hx209_2
         replace p209 := eq_true p209
         replace q209 := eq_true q209
         go_wp2_with (first | ((with_reducible refine gate_dst (N := 5) rfl ?_); (try (refine gate_guard (by rfl) ?_; dsimp only)); refine box_event ?hg (N := 5) ?hd (cs := #[.int .i64 0, .int .i64 0, .int .i64 0]) (t := 40) ?hr ?_; (case hd => rfl); (case hg => rfl); (case hr => first | (go_simp; done) | (go_simp; rfl)); intro gb210 hg w16 hbox hb; have n0_ := Aside0.mk (blk_below (g := gb205) (o := .cells #[.int .i64 a0_0, .int .i64 a0_1, .slice (some ad209) l0_2.length c0_2] 29 (0, 0)) (by (with_reducible repeat (first | refine blk_drewN ?_ _ | refine blk_drew ?_ | refine blk_alloc ?_ _)); exact BK205.out) hb); have n1_ := Aside0.mk (below_step (by repeat (first | (with_reducible first | exact HB.out | apply ba | apply bn | apply bd | refine bt ?_ GE205.out) | exact HB.out)) hb); have n2_ := Aside0.mk (hbox); have n3_ := Aside0.mk ((by rw [hg]; exact (below_size (by repeat (first | (with_reducible first | exact HB.out | apply ba | apply bn | apply bd | refine bt ?_ GE205.out) | exact HB.out))) : w.heap.size ≤ gb210)); have n4_ := Aside0.mk ((by rw [hg]; exact (below_size (by repeat (first | (with_reducible first | exact HB.out | apply ba | apply bn | apply bd | refine bt ?_ GE205.out) | exact HB.out))) : w.heap.size ≤ gb210)); have n5_ := Aside0.mk ((by rw [hg]; exact Nat.ne_of_lt (blk_lt (g := gb205) (o := .cells #[.int .i64 a0_0, .int .i64 a0_1, .slice (some ad209) l0_2.length c0_2] 29 (0, 0)) (by (with_reducible repeat (first | refine blk_drewN ?_ _ | refine blk_drew ?_ | refine blk_alloc ?_ _)); exact BK205.out)) : gb205 ≠ gb210)); have n6_ := Aside0.mk ((by rw [hg]; exact Nat.ne_of_gt (blk_lt (g := gb205) (o := .cells #[.int .i64 a0_0, .int .i64 a0_1, .slice (some ad209) l0_2.length c0_2] 29 (0, 0)) (by (with_reducible repeat (first | refine blk_drewN ?_ _ | refine blk_drew ?_ | refine blk_alloc ?_ _)); exact BK205.out)) : gb210 ≠ gb205)); clear BK205; clear HB; have BK205 := n0_; have HB := n1_; have BK210 := n2_; have GW210 := n3_; have GE210 := n4_; have NB205_210 := n5_; have NB210_205 := n6_; clear n0_ n1_ n2_ n3_ n4_ n5_ n6_; clear hb hbox hg; have hnb17 := NB210_205.out; have hnc17 := NB205_210.out; have hcz18_0 : w16.cell? ⟨gb210, 0, none⟩ = some (.int .i64 0) := cl BK210.out 0 rfl; have hcz18_1 : w16.cell? ⟨gb210, 1, none⟩ = some (.int .i64 0) := cl BK210.out 1 rfl; have hcz18_2 : w16.cell? ⟨gb210, 2, none⟩ = some (.int .i64 0) := cl BK210.out 2 rfl; have hfz18_0 := fz BK210.out 0; have hfz18_1 := fz BK210.out 1; have hfz18_2 := fz BK210.out 2) | (go_at_call 49; (with_reducible refine (impl_in.calls ((rd_T40 l0_2 x9_1).f1) (wrap64 (x3_1 + 1)) 40 true _ A8.out).mono ?_); rintro e w' ⟨rfl, ⟨nd, rfl⟩⟩; have hcz19_0 : w16.cell? ⟨gb205, 0, none⟩ = some (.int .i64 a0_0) := cl BK205.out 0 rfl; have hcz19_1 : w16.cell? ⟨gb205, 1, none⟩ = some (.int .i64 a0_1) := cl BK205.out 1 rfl; have hcz19_2 : w16.cell? ⟨gb205, 2, none⟩ = some (.slice (some ad209) l0_2.length c0_2) := cl BK205.out 2 rfl; have hfz19_0 := fz BK205.out 0; have hfz19_1 := fz BK205.out 1; have hfz19_2 := fz BK205.out 2) | (go_at_call 50; (with_reducible refine (impl_has.calls a0_1 ((rd_T40 l0_2 x9_1).f2) false _ A10.out).mono ?_); rintro e w' ⟨rfl, ⟨nd, rfl⟩⟩))
         go_ret
         exact ⟨by first | rfl | (simp [errW_none, errW_some] <;> rfl) | (simp [*, errW_none, errW_some] <;> rfl), by repeat (first | (with_reducible first | exact HB.out | apply ba | apply bn | apply bd | refine bt ?_ GE205.out | refine bt ?_ GE210.out) | exact HB.out)⟩
       ·replace c9 := Bool.eq_false_iff.mpr c9
        subst c9
        have H1 : (some false) = some r := by rw [if_neg (show ¬ (false = true) by decide)] at H; exact H
        clear H
        have H := H1
        clear H1
        obtain rfl := Option.some.inj H
        have p209 : 0 ≤ (x9_1 : Int) := of_decide_eq_true (by first | (with_reducible assumption) | assumption)
        have q209 : x9_1 < (l0_2.length : Int) := of_decide_eq_true (by first | (with_reducible assumption) | assumption)
        obtain ⟨ad209, e209, hx209_0, hx209_1, hx209_2⟩ := at_T40 HR0_2.out x9_1 p209 q209
        cases e209
        replace hx209_0 := tc HB.out hx209_0
        replace hx209_1 := tc HB.out hx209_1
        replace hx209_2 := tc HB.out hx209_2
        replace p209 := eq_true p209
        replace q209 := eq_true q209
        go_wp2_with (first | ((with_reducible refine gate_dst (N := 5) rfl ?_); (try (refine gate_guard (by rfl) ?_; dsimp only)); refine box_event ?hg (N := 5) ?hd (cs := #[.int .i64 0, .int .i64 0, .int .i64 0]) (t := 40) ?hr ?_; (case hd => rfl); (case hg => rfl); (case hr => first | (go_simp; done) | (go_simp; rfl)); intro gb210 hg w20 hbox hb; have n0_ := Aside0.mk (blk_below (g := gb205) (o := .cells #[.int .i64 a0_0, .int .i64 a0_1, .slice (some ad209) l0_2.length c0_2] 29 (0, 0)) (by (with_reducible repeat (first | refine blk_drewN ?_ _ | refine blk_drew ?_ | refine blk_alloc ?_ _)); exact BK205.out) hb); have n1_ := Aside0.mk (below_step (by repeat (first | (with_reducible first | exact HB.out | apply ba | apply bn | apply bd | refine bt ?_ GE205.out) | exact HB.out)) hb); have n2_ := Aside0.mk (hbox); have n3_ := Aside0.mk ((by rw [hg]; exact (below_size (by repeat (first | (with_reducible first | exact HB.out | apply ba | apply bn | apply bd | refine bt ?_ GE205.out) | exact HB.out))) : w.heap.size ≤ gb210)); have n4_ := Aside0.mk ((by rw [hg]; exact (below_size (by repeat (first | (with_reducible first | exact HB.out | apply ba | apply bn | apply bd | refine bt ?_ GE205.out) | exact HB.out))) : w.heap.size ≤ gb210)); have n5_ := Aside0.mk ((by rw [hg]; exact Nat.ne_of_lt (blk_lt (g := gb205) (o := .cells #[.int .i64 a0_0, .int .i64 a0_1, .slice (some ad209) l0_2.length c0_2] 29 (0, 0)) (by (with_reducible repeat (first | refine blk_drewN ?_ _ | refine blk_drew ?_ | refine blk_alloc ?_ _)); exact BK205.out)) : gb205 ≠ gb210)); have n6_ := Aside0.mk ((by rw [hg]; exact Nat.ne_of_gt (blk_lt (g := gb205) (o := .cells #[.int .i64 a0_0, .int .i64 a0_1, .slice (some ad209) l0_2.length c0_2] 29 (0, 0)) (by (with_reducible repeat (first | refine blk_drewN ?_ _ | refine blk_drew ?_ | refine blk_alloc ?_ _)); exact BK205.out)) : gb210 ≠ gb205)); clear BK205; clear HB; have BK205 := n0_; have HB := n1_; have BK210 := n2_; have GW210 := n3_; have GE210 := n4_; have NB205_210 := n5_; have NB210_205 := n6_; clear n0_ n1_ n2_ n3_ n4_ n5_ n6_; clear hb hbox hg; have hnb21 := NB210_205.out; have hnc21 := NB205_210.out; have hcz22_0 : w20.cell? ⟨gb210, 0, none⟩ = some (.int .i64 0) := cl BK210.out 0 rfl; have hcz22_1 : w20.cell? ⟨gb210, 1, none⟩ = some (.int .i64 0) := cl BK210.out 1 rfl; have hcz22_2 : w20.cell? ⟨gb210, 2, none⟩ = some (.int .i64 0) := cl BK210.out 2 rfl; have hfz22_0 := fz BK210.out 0; have hfz22_1 := fz BK210.out 1; have hfz22_2 := fz BK210.out 2) | (go_at_call 49; (with_reducible refine (impl_in.calls ((rd_T40 l0_2 x9_1).f1) (wrap64 (x3_1 + 1)) 40 false _ A8.out).mono ?_); rintro e w' ⟨rfl, ⟨nd, rfl⟩⟩))
        go_ret
        exact ⟨by first | rfl | (simp [errW_none, errW_some] <;> rfl) | (simp [*, errW_none, errW_some] <;> rfl), by repeat (first | (with_reducible first | exact HB.out | apply ba | apply bn | apply bd | refine bt ?_ GE205.out | refine bt ?_ GE210.out) | exact HB.out)⟩
      ·rw [if_neg c7] at H
       have c7b0 : (((rd_T40 l0_2 x9_1).f0) == x3_1) = false := beq_eq_false_iff_ne.mpr c7
       have c7b1 : (((rd_T40 l0_2 x9_1).f0) != x3_1) = true := bne_iff_ne.mpr c7
       obtain rfl := Option.some.inj H
       have p209 : 0 ≤ (x9_1 : Int) := of_decide_eq_true (by first | (with_reducible assumption) | assumption)
       have q209 : x9_1 < (l0_2.length : Int) := of_decide_eq_true (by first | (with_reducible assumption) | assumption)
       obtain ⟨ad209, e209, hx209_0, hx209_1, hx209_2⟩ := at_T40 HR0_2.out x9_1 p209 q209
       cases e209
       replace hx209_0 := tc HB.out hx209_0
       replace hx209_1 := tc HB.out hx209_1
       replace hx209_2 := tc HB.out hx209_2
       replace p209 := eq_true p209
       replace q209 := eq_true q209
       go_wp2_with (first | ((with_reducible refine gate_dst (N := 5) rfl ?_); (try (refine gate_guard (by rfl) ?_; dsimp only)); refine box_event ?hg (N := 5) ?hd (cs := #[.int .i64 0, .int .i64 0, .int .i64 0]) (t := 40) ?hr ?_; (case hd => rfl); (case hg => rfl); (case hr => first | (go_simp; done) | (go_simp; rfl)); intro gb210 hg w23 hbox hb; have n0_ := Aside0.mk (blk_below (g := gb205) (o := .cells #[.int .i64 a0_0, .int .i64 a0_1, .slice (some ad209) l0_2.length c0_2] 29 (0, 0)) (by (with_reducible repeat (first | refine blk_drewN ?_ _ | refine blk_drew ?_ | refine blk_alloc ?_ _)); exact BK205.out) hb); have n1_ := Aside0.mk (below_step (by repeat (first | (with_reducible first | exact HB.out | apply ba | apply bn | apply bd | refine bt ?_ GE205.out) | exact HB.out)) hb); have n2_ := Aside0.mk (hbox); have n3_ := Aside0.mk ((by rw [hg]; exact (below_size (by repeat (first | (with_reducible first | exact HB.out | apply ba | apply bn | apply bd | refine bt ?_ GE205.out) | exact HB.out))) : w.heap.size ≤ gb210)); have n4_ := Aside0.mk ((by rw [hg]; exact (below_size (by repeat (first | (with_reducible first | exact HB.out | apply ba | apply bn | apply bd | refine bt ?_ GE205.out) | exact HB.out))) : w.heap.size ≤ gb210)); have n5_ := Aside0.mk ((by rw [hg]; exact Nat.ne_of_lt (blk_lt (g := gb205) (o := .cells #[.int .i64 a0_0, .int .i64 a0_1, .slice (some ad209) l0_2.length c0_2] 29 (0, 0)) (by (with_reducible repeat (first | refine blk_drewN ?_ _ | refine blk_drew ?_ | refine blk_alloc ?_ _)); exact BK205.out)) : gb205 ≠ gb210)); have n6_ := Aside0.mk ((by rw [hg]; exact Nat.ne_of_gt (blk_lt (g := gb205) (o := .cells #[.int .i64 a0_0, .int .i64 a0_1, .slice (some ad209) l0_2.length c0_2] 29 (0, 0)) (by (with_reducible repeat (first | refine blk_drewN ?_ _ | refine blk_drew ?_ | refine blk_alloc ?_ _)); exact BK205.out)) : gb210 ≠ gb205)); clear BK205; clear HB; have BK205 := n0_; have HB := n1_; have BK210 := n2_; have GW210 := n3_; have GE210 := n4_; have NB205_210 := n5_; have NB210_205 := n6_; clear n0_ n1_ n2_ n3_ n4_ n5_ n6_; clear hb hbox hg; have hnb24 := NB210_205.out; have hnc24 := NB205_210.out; have hcz25_0 : w23.cell? ⟨gb210, 0, none⟩ = some (.int .i64 0) := cl BK210.out 0 rfl; have hcz25_1 : w23.cell? ⟨gb210, 1, none⟩ = some (.int .i64 0) := cl BK210.out 1 rfl; have hcz25_2 : w23.cell? ⟨gb210, 2, none⟩ = some (.int .i64 0) := cl BK210.out 2 rfl; have hfz25_0 := fz BK210.out 0; have hfz25_1 := fz BK210.out 1; have hfz25_2 := fz BK210.out 2))
       go_ret
       exact ⟨by first | rfl | (simp [errW_none, errW_some] <;> rfl) | (simp [*, errW_none, errW_some] <;> rfl), by repeat (first | (with_reducible first | exact HB.out | apply ba | apply bn | apply bd | refine bt ?_ GE205.out | refine bt ?_ GE210.out) | exact HB.out)⟩
     ·rw [if_neg c6] at H
      exact absurd H (by simp)
    ·rw [if_neg c5] at H
     exact absurd H (by simp)
   ·rw [if_neg c4] at H
    have c4b0 : decide (x9_1 < (l0_2.length : Int)) = false := decide_eq_false c4
    clear c4
    replace H := Option.bind_eq_some_iff.mp H
    obtain ⟨t206, A260, H⟩ := H
    replace H : (if t206 = true then ((impl_in.f a0_1 1 31).bind fun t207 => (if t207 = true then ((impl_in.f (l0_2.length : Int) 1 8).bind fun t208 => (if t208 = true then (some (x3_1 == 40)) else (some false))) else (some false))) else (some false)) = some r := H
    have A26 := Aside0.mk A260
    clear A260
    by_cases c27 : t206 = true
    ·subst c27
     have H1 : ((impl_in.f a0_1 1 31).bind fun t207 => (if t207 = true then ((impl_in.f (l0_2.length : Int) 1 8).bind fun t208 => (if t208 = true then (some (x3_1 == 40)) else (some false))) else (some false))) = some r := by rw [if_pos rfl] at H; exact H
     clear H
     have H := H1
     clear H1
     replace H := Option.bind_eq_some_iff.mp H
     obtain ⟨t207, A280, H⟩ := H
     replace H : (if t207 = true then ((impl_in.f (l0_2.length : Int) 1 8).bind fun t208 => (if t208 = true then (some (x3_1 == 40)) else (some false))) else (some false)) = some r := H
     have A28 := Aside0.mk A280
     clear A280
     by_cases c29 : t207 = true
     ·subst c29
      have H1 : ((impl_in.f (l0_2.length : Int) 1 8).bind fun t208 => (if t208 = true then (some (x3_1 == 40)) else (some false))) = some r := by rw [if_pos rfl] at H; exact H
      clear H
      have H := H1
      clear H1
      replace H := Option.bind_eq_some_iff.mp H
      obtain ⟨t208, A300, H⟩ := H
      replace H : (if t208 = true then (some (x3_1 == 40)) else (some false)) = some r := H
      have A30 := Aside0.mk A300
      clear A300
      by_cases c31 : t208 = true
      ·subst c31
       have H1 : (some (x3_1 == 40)) = some r := by rw [if_pos rfl] at H; exact H
       clear H
       have H := H1
       clear H1
       obtain rfl := Option.some.inj H
       have hcz32_0 : wr.cell? ⟨gb205, 0, none⟩ = some (.int .i64 a0_0) := cl BK205.out 0 rfl
       have hcz32_1 : wr.cell? ⟨gb205, 1, none⟩ = some (.int .i64 a0_1) := cl BK205.out 1 rfl
       have hcz32_2 : wr.cell? ⟨gb205, 2, none⟩ = some (.slice A0_2 l0_2.length c0_2) := cl BK205.out 2 rfl
       have hfz32_0 := fz BK205.out 0
       have hfz32_1 := fz BK205.out 1
       have hfz32_2 := fz BK205.out 2
       go_wp2_with (first | ((with_reducible refine gate_callee (f := 49) rfl ?_); refine goesL_ (some 38) rfl rfl Try.func49 (by kernel_rfl) rfl #[.int .i64 a0_0, .int .i64 1, .int .i64 9999] rfl (by (try simp only [List.map_toArray, List.map_cons, List.map_nil]); first | done | rfl | (simp only [List.length_drop, List.length_take]; rfl)) ?_; (with_reducible refine (impl_in.calls a0_0 1 9999 true _ A26.out).mono ?_); rintro e w' ⟨rfl, ⟨nd, rfl⟩⟩; refine ⟨_, rfl, ?_⟩) | (go_at_call 49; (with_reducible refine (impl_in.calls a0_1 1 31 true _ A28.out).mono ?_); rintro e w' ⟨rfl, ⟨nd, rfl⟩⟩) | (go_at_call 49; (with_reducible refine (impl_in.calls (l0_2.length : Int) 1 8 true _ A30.out).mono ?_); rintro e w' ⟨rfl, ⟨nd, rfl⟩⟩))
       go_ret
       exact ⟨by first | rfl | (simp [errW_none, errW_some] <;> rfl) | (simp [*, errW_none, errW_some] <;> rfl), by repeat (first | (with_reducible first | exact HB.out | apply ba | apply bn | apply bd | refine bt ?_ GE205.out) | exact HB.out)⟩
      ·replace c31 := Bool.eq_false_iff.mpr c31
       subst c31
       have H1 : (some false) = some r := by rw [if_neg (show ¬ (false = true) by decide)] at H; exact H
       clear H
       have H := H1
       clear H1
       obtain rfl := Option.some.inj H
       have hcz33_0 : wr.cell? ⟨gb205, 0, none⟩ = some (.int .i64 a0_0) := cl BK205.out 0 rfl
       have hcz33_1 : wr.cell? ⟨gb205, 1, none⟩ = some (.int .i64 a0_1) := cl BK205.out 1 rfl
       have hcz33_2 : wr.cell? ⟨gb205, 2, none⟩ = some (.slice A0_2 l0_2.length c0_2) := cl BK205.out 2 rfl
       have hfz33_0 := fz BK205.out 0
       have hfz33_1 := fz BK205.out 1
       have hfz33_2 := fz BK205.out 2
       go_wp2_with (first | ((with_reducible refine gate_callee (f := 49) rfl ?_); refine goesL_ (some 38) rfl rfl Try.func49 (by kernel_rfl) rfl #[.int .i64 a0_0, .int .i64 1, .int .i64 9999] rfl (by (try simp only [List.map_toArray, List.map_cons, List.map_nil]); first | done | rfl | (simp only [List.length_drop, List.length_take]; rfl)) ?_; (with_reducible refine (impl_in.calls a0_0 1 9999 true _ A26.out).mono ?_); rintro e w' ⟨rfl, ⟨nd, rfl⟩⟩; refine ⟨_, rfl, ?_⟩) | (go_at_call 49; (with_reducible refine (impl_in.calls a0_1 1 31 true _ A28.out).mono ?_); rintro e w' ⟨rfl, ⟨nd, rfl⟩⟩) | (go_at_call 49; (with_reducible refine (impl_in.calls (l0_2.length : Int) 1 8 false _ A30.out).mono ?_); rintro e w' ⟨rfl, ⟨nd, rfl⟩⟩))
       go_ret
       exact ⟨by first | rfl | (simp [errW_none, errW_some] <;> rfl) | (simp [*, errW_none, errW_some] <;> rfl), by repeat (first | (with_reducible first | exact HB.out | apply ba | apply bn | apply bd | refine bt ?_ GE205.out) | exact HB.out)⟩
     ·replace c29 := Bool.eq_false_iff.mpr c29
      subst c29
      have H1 : (some false) = some r := by rw [if_neg (show ¬ (false = true) by decide)] at H; exact H
      clear H
      have H := H1
      clear H1
      obtain rfl := Option.some.inj H
      have hcz34_0 : wr.cell? ⟨gb205, 0, none⟩ = some (.int .i64 a0_0) := cl BK205.out 0 rfl
      have hcz34_1 : wr.cell? ⟨gb205, 1, none⟩ = some (.int .i64 a0_1) := cl BK205.out 1 rfl
      have hcz34_2 : wr.cell? ⟨gb205, 2, none⟩ = some (.slice A0_2 l0_2.length c0_2) := cl BK205.out 2 rfl
      have hfz34_0 := fz BK205.out 0
      have hfz34_1 := fz BK205.out 1
      have hfz34_2 := fz BK205.out 2
      go_wp2_with (first | ((with_reducible refine gate_callee (f := 49) rfl ?_); refine goesL_ (some 38) rfl rfl Try.func49 (by kernel_rfl) rfl #[.int .i64 a0_0, .int .i64 1, .int .i64 9999] rfl (by (try simp only [List.map_toArray, List.map_cons, List.map_nil]); first | done | rfl | (simp only [List.length_drop, List.length_take]; rfl)) ?_; (with_reducible refine (impl_in.calls a0_0 1 9999 true _ A26.out).mono ?_); rintro e w' ⟨rfl, ⟨nd, rfl⟩⟩; refine ⟨_, rfl, ?_⟩) | (go_at_call 49; (with_reducible refine (impl_in.calls a0_1 1 31 false _ A28.out).mono ?_); rintro e w' ⟨rfl, ⟨nd, rfl⟩⟩))
      go_ret
      exact ⟨by first | rfl | (simp [errW_none, errW_some] <;> rfl) | (simp [*, errW_none, errW_some] <;> rfl), by repeat (first | (with_reducible first | exact HB.out | apply ba | apply bn | apply bd | refine bt ?_ GE205.out) | exact HB.out)⟩
    ·replace c27 := Bool.eq_false_iff.mpr c27
     subst c27
     have H1 : (some false) = some r := by rw [if_neg (show ¬ (false = true) by decide)] at H; exact H
     clear H
     have H := H1
     clear H1
     obtain rfl := Option.some.inj H
     have hcz35_0 : wr.cell? ⟨gb205, 0, none⟩ = some (.int .i64 a0_0) := cl BK205.out 0 rfl
     have hcz35_1 : wr.cell? ⟨gb205, 1, none⟩ = some (.int .i64 a0_1) := cl BK205.out 1 rfl
     have hcz35_2 : wr.cell? ⟨gb205, 2, none⟩ = some (.slice A0_2 l0_2.length c0_2) := cl BK205.out 2 rfl
     have hfz35_0 := fz BK205.out 0
     have hfz35_1 := fz BK205.out 1
     have hfz35_2 := fz BK205.out 2
     go_wp2_with (first | ((with_reducible refine gate_callee (f := 49) rfl ?_); refine goesL_ (some 38) rfl rfl Try.func49 (by kernel_rfl) rfl #[.int .i64 a0_0, .int .i64 1, .int .i64 9999] rfl (by (try simp only [List.map_toArray, List.map_cons, List.map_nil]); first | done | rfl | (simp only [List.length_drop, List.length_take]; rfl)) ?_; (with_reducible refine (impl_in.calls a0_0 1 9999 false _ A26.out).mono ?_); rintro e w' ⟨rfl, ⟨nd, rfl⟩⟩; refine ⟨_, rfl, ?_⟩))
     go_ret
     exact ⟨by first | rfl | (simp [errW_none, errW_some] <;> rfl) | (simp [*, errW_none, errW_some] <;> rfl), by repeat (first | (with_reducible first | exact HB.out | apply ba | apply bn | apply bd | refine bt ?_ GE205.out) | exact HB.out)⟩

/-! ### impl_TableRange_86: function 86 -/
def impl_TableRange_86.f (l0 : List (S40)) : Option ((List (S40))) := (some (([] : List (S40)) : List (S40))).bind fun y213 => (if y213.length + l0.length < 5864062014805 then (some (y213 ++ l0)) else (none))
set_option maxHeartbeats 8000000 in
set_option maxRecDepth 100000 in
theorem impl_TableRange_86.calls_some (ad0 : Addr) (c0 : Nat) (l0 : List (S40)) (r : List (S40)) (w : World) (hr0 : Kd.C k40 w (some ad0) l0.length l0) (hc0 : l0.length ≤ c0) (h : impl_TableRange_86.f l0 = some r) :
  Calls Try.prog 86 #[.slice (some ad0) l0.length c0] w fun e w' => ∃ v0_ : Value, e = .returned (v0_) ∧ Kd.R k40 40 w' w.heap.size (fun _ => True) v0_ r ∧ Below w.heap.size w w' := by
 have HR0 := Aside0.mk hr0
 have HC0 := Aside0.mk hc0
 clear hr0 hc0
 have HB := Aside0.mk (Below.refl w.heap.size w)
 have H : ((some (([] : List (S40)) : List (S40))).bind fun y213 => (if y213.length + l0.length < 5864062014805 then (some (y213 ++ l0)) else (none))) = some r := h
 clear h
 obtain ⟨y213, hy213⟩ : ∃ y_ : List (S40), y_ = (([] : List (S40))) := ⟨_, rfl⟩
 replace H : (if y213.length + l0.length < 5864062014805 then (some (y213 ++ l0)) else (none)) = some r := by first | (rw [hy213]; with_reducible exact H) | (have H2_ := (Option.bind_some _ _).symm.trans H; rw [hy213]; with_reducible exact H2_) | (have H2_ := (Option.bind_some _ _).symm.trans H; with_reducible exact H2_) | with_reducible exact H | (rw [hy213]; exact H) | exact H
 have Ny213 := Aside0.mk hy213
 clear hy213
 by_cases c2 : y213.length + l0.length < 5864062014805
 ·rw [if_pos c2] at H
  have LMc2 := Aside0.mk c2
  clear c2
  obtain ⟨y216, hy216⟩ : ∃ y_ : List (S40), y_ = (y213 ++ l0) := ⟨_, rfl⟩
  replace H : (some y216) = some r := by first | (rw [hy216]; with_reducible exact H) | (have H2_ := (Option.bind_some _ _).symm.trans H; rw [hy216]; with_reducible exact H2_) | (have H2_ := (Option.bind_some _ _).symm.trans H; with_reducible exact H2_) | with_reducible exact H | (rw [hy216]; exact H) | exact H
  have Ny216 := Aside0.mk hy216
  clear hy216
  obtain rfl := Option.some.inj H
  have hnil : ∀ w : World, (binOp .eql 27 (.slice (some ad0) l0.length c0) (.slice none 0 0)).run Try.prog w = .ok (.bool false) w := fun w => by rw [Go.run_eql_slice_nil w 27 40 _ _ _ Try.underlying27]; rfl
  go_enter Try.func86, Try.ntmps86
  go_wp2_with (first | ((with_reducible refine gate_dst (N := 5) rfl ?_); refine Kd.R_lit k40 _ 40 ?hg (N := 5) ?hd (xs := ([] : List (S40))) (inner := []) (ok := fun _ => True) (okp := fun _ => True) ?hr ?hp (fun _ hk => hk) trivial (Below.refl _ _) (Nat.le_refl _) (by simp) ?_; (case hd => rfl); (case hg => rfl); (case hr => first | (go_simp; done) | (go_simp; rfl)); (case hp => exact (Reps.none _ _)); intro v214 w3 ho4 hb hg_ hnew_; clear hg_ hnew_; (first | rw [← Ny213.out] at ho4 | (simp only [Int.reduceToNat] at ho4; rw [← Ny213.out] at ho4)); have n0_ := Aside0.mk (Kd.R_lower ho4 (below_size (by repeat (first | (with_reducible first | exact HB.out | apply ba | apply bn | apply bd) | exact HB.out)))); have n1_ := Aside0.mk (below_step (by repeat (first | (with_reducible first | exact HB.out | apply ba | apply bn | apply bd) | exact HB.out)) hb); clear HB; have HO215 := n0_; have HB := n1_; clear n0_ n1_; clear hb ho4) | ((with_reducible refine gate_builtin (b := .append) (xs := #[.tmp 5, .tmp 6]) rfl ?_); at_builtin; refine Kd.R_append_rows k40 (w0 := w) w.heap.size rfl (.tmp 5) (.tmp 6) 27 40 (.agg #[(.int .i64 0), (.int .i64 0), (.int .i64 0)]) 24 rfl Try.underlying27 info40 rfl (by decide) (by omega) v214 y213 l0 _ _ _ (fun _ => True) (fun _ => False) rfl rfl ?aO ?aR (fun _ _ h => h) (fun _ h => h.elim) ?aF ?aB ?aS ?aL ?_; (case aR => repeat (first | exact (Kd.C_below HR0.out HB.out) | (with_reducible refine Kd.C_alloc ?_ _) | (with_reducible refine Kd.C_drewN ?_ _) | (with_reducible refine Kd.C_drew ?_))); (case aB => exact (by repeat (first | (with_reducible first | exact HB.out | apply ba | apply bn | apply bd) | exact HB.out))); (case aF => exact (fun _ _ => trivial)); (case aO => exact (by (with_reducible repeat (first | apply Kd.R_alloc | apply Kd.R_drewN | apply Kd.R_drew)); exact HO215.out)); (case aS => exact (below_size (by repeat (first | (with_reducible first | exact HB.out | apply ba | apply bn | apply bd) | exact HB.out)))); (case aL => have := LMc2.out; omega); intro v217 w5 ho hb hg hat; rw [← Ny216.out] at ho; have n0_ := Aside0.mk (hb); have n1_ := Aside0.mk (ho); clear HB; clear HO215; have HB := n0_; have HO218 := n1_; clear n0_ n1_; clear ho hb hg hat))
  go_ret
  exact ⟨_, by first | rfl | (simp [errW_none, errW_some] <;> rfl) | (simp [*, errW_none, errW_some] <;> rfl), by (with_reducible repeat (first | apply Kd.R_alloc | apply Kd.R_drewN | apply Kd.R_drew)); exact HO218.out, by repeat (first | (with_reducible first | exact HB.out | apply ba | apply bn | apply bd) | exact HB.out)⟩
 ·rw [if_neg c2] at H
  exact absurd H (by simp)
set_option maxRecDepth 100000 in
theorem impl_TableRange_86.calls_none (c0 : Nat) (w : World) : Calls Try.prog 86 #[.slice none 0 c0] w fun e w' => e = .returned (.slice none 0 0) ∧ Below w.heap.size w w' := by
 have hnil : ∀ w : World, (binOp .eql 27 (.slice none 0 c0) (.slice none 0 0)).run Try.prog w = .ok (.bool true) w := fun w => by rw [Go.run_eql_slice_nil w 27 40 _ _ _ Try.underlying27]; rfl
 go_enter Try.func86, Try.ntmps86
 go_wp2
 go_ret
 exact ⟨rfl, Below.refl _ _⟩
theorem impl_TableRange_86.calls (A0 : Option Addr) (c0 : Nat) (l0 : List (S40)) (r : List (S40)) (w : World) (hr0 : Kd.C k40 w A0 l0.length l0) (hc0 : l0.length ≤ c0) (h : impl_TableRange_86.f l0 = some r) :
  Calls Try.prog 86 #[.slice A0 l0.length c0] w fun e w' => ∃ v0_ : Value, e = .returned (v0_) ∧ Kd.R k40 40 w' w.heap.size (fun _ => True) v0_ r ∧ Below w.heap.size w w' := by
 cases A0 with
 | some ad0 => exact impl_TableRange_86.calls_some ad0 c0 l0 r w hr0 hc0 h
 | none =>
  have h0 : l0.length = 0 := by
   rcases Nat.eq_zero_or_pos l0.length with h1 | h1
   ·exact h1
   ·obtain ⟨ad, he, _⟩ := hr0.2.2 h1
    cases he
  obtain rfl := List.eq_nil_of_length_eq_zero h0
  have hr : r = [] := by
   unfold impl_TableRange_86.f at h
   simpa using h.symm
  subst hr
  refine (impl_TableRange_86.calls_none c0 w).mono ?_
  rintro e w' ⟨rfl, hb⟩
  exact ⟨.slice none 0 0, rfl, Kd.R_nil _ _ _ _ _, hb⟩

/-! ### impl_Table_copied: function 80 -/
def impl_Table_copied.f (a0_0 : Int) (a0_1 : Int) (l0_2 : List (S40)) : Option (Int × Int × (List (S40))) := (impl_TableRange_86.f l0_2).bind fun t221 => (some (a0_0, a0_1, t221))
set_option maxHeartbeats 8000000 in
set_option maxRecDepth 100000 in
theorem impl_Table_copied.calls (a0_0 : Int) (a0_1 : Int) (A0_2 : Option Addr) (c0_2 : Nat) (l0_2 : List (S40)) (r1 : Int) (r2 : Int) (r3 : List (S40)) (w : World) (hr0_2 : Kd.C k40 w A0_2 l0_2.length l0_2) (hc0_2 : l0_2.length ≤ c0_2) (h : impl_Table_copied.f a0_0 a0_1 l0_2 = some (r1, r2, r3)) :
  Calls Try.prog 80 #[.agg #[.int .i64 a0_0, .int .i64 a0_1, .slice A0_2 l0_2.length c0_2]] w fun e w' => ∃ v2_ : Value, e = .returned (.agg #[.int .i64 r1, .int .i64 r2, v2_]) ∧ Kd.R k40 40 w' w.heap.size (fun _ => True) v2_ r3 ∧ Below w.heap.size w w' := by
 have hu29 := Try.underlying29
 have HR0_2 := Aside0.mk hr0_2
 have HC0_2 := Aside0.mk hc0_2
 clear hr0_2 hc0_2
 have HB := Aside0.mk (Below.refl w.heap.size w)
 have H : ((impl_TableRange_86.f l0_2).bind fun t221 => (some (a0_0, a0_1, t221))) = some (r1, r2, r3) := h
 clear h
 replace H := Option.bind_eq_some_iff.mp H
 obtain ⟨t221, A20, H⟩ := H
 replace H : (some (a0_0, a0_1, t221)) = some (r1, r2, r3) := H
 have A2 := Aside0.mk A20
 clear A20
 simp only [Option.some.injEq, Prod.mk.injEq] at H
 obtain ⟨rfl, rfl, rfl⟩ := H
 go_enter Try.func80, Try.ntmps80
 go_wp2_with (first | ((with_reducible refine gate_dst (N := 1) rfl ?_); refine box_event ?hg (N := 1) ?hd (cs := #[.int .i64 a0_0, .int .i64 a0_1, .slice A0_2 l0_2.length c0_2]) (t := 29) ?hr ?_; (case hd => rfl); (case hg => rfl); (case hr => first | (go_simp; done) | (go_simp; rfl)); intro gb219 hg w3 hbox hb; have n0_ := Aside0.mk (below_step (by repeat (first | (with_reducible first | exact HB.out | apply ba | apply bn | apply bd) | exact HB.out)) hb); have n1_ := Aside0.mk (hbox); have n2_ := Aside0.mk ((by rw [hg]; exact (below_size (by repeat (first | (with_reducible first | exact HB.out | apply ba | apply bn | apply bd) | exact HB.out))) : w.heap.size ≤ gb219)); have n3_ := Aside0.mk ((by rw [hg]; exact (below_size (by repeat (first | (with_reducible first | exact HB.out | apply ba | apply bn | apply bd) | exact HB.out))) : w.heap.size ≤ gb219)); clear HB; have HB := n0_; have BK219 := n1_; have GW219 := n2_; have GE219 := n3_; clear n0_ n1_ n2_ n3_; clear hb hbox hg) | ((with_reducible refine gate_dst (N := 2) rfl ?_); refine box_event ?hg (N := 2) ?hd (cs := #[.int .i64 0, .int .i64 0, .slice none 0 0]) (t := 29) ?hr ?_; (case hd => rfl); (case hg => rfl); (case hr => first | (go_simp; done) | (go_simp; rfl)); intro gb220 hg w4 hbox hb; have n0_ := Aside0.mk (blk_below (g := gb219) (o := .cells #[.int .i64 a0_0, .int .i64 a0_1, .slice A0_2 l0_2.length c0_2] 29 (0, 0)) (by (with_reducible repeat (first | refine blk_drewN ?_ _ | refine blk_drew ?_ | refine blk_alloc ?_ _)); exact BK219.out) hb); have n1_ := Aside0.mk (below_step (by repeat (first | (with_reducible first | exact HB.out | apply ba | apply bn | apply bd | refine bt ?_ GE219.out) | exact HB.out)) hb); have n2_ := Aside0.mk (hbox); have n3_ := Aside0.mk ((by rw [hg]; exact (below_size (by repeat (first | (with_reducible first | exact HB.out | apply ba | apply bn | apply bd | refine bt ?_ GE219.out) | exact HB.out))) : w.heap.size ≤ gb220)); have n4_ := Aside0.mk ((by rw [hg]; exact (below_size (by repeat (first | (with_reducible first | exact HB.out | apply ba | apply bn | apply bd | refine bt ?_ GE219.out) | exact HB.out))) : w.heap.size ≤ gb220)); have n5_ := Aside0.mk ((by rw [hg]; exact Nat.ne_of_lt (blk_lt (g := gb219) (o := .cells #[.int .i64 a0_0, .int .i64 a0_1, .slice A0_2 l0_2.length c0_2] 29 (0, 0)) (by (with_reducible repeat (first | refine blk_drewN ?_ _ | refine blk_drew ?_ | refine blk_alloc ?_ _)); exact BK219.out)) : gb219 ≠ gb220)); have n6_ := Aside0.mk ((by rw [hg]; exact Nat.ne_of_gt (blk_lt (g := gb219) (o := .cells #[.int .i64 a0_0, .int .i64 a0_1, .slice A0_2 l0_2.length c0_2] 29 (0, 0)) (by (with_reducible repeat (first | refine blk_drewN ?_ _ | refine blk_drew ?_ | refine blk_alloc ?_ _)); exact BK219.out)) : gb220 ≠ gb219)); clear BK219; clear HB; have BK219 := n0_; have HB := n1_; have BK220 := n2_; have GW220 := n3_; have GE220 := n4_; have NB219_220 := n5_; have NB220_219 := n6_; clear n0_ n1_ n2_ n3_ n4_ n5_ n6_; clear hb hbox hg; have hnb5 := NB219_220.out; have hnc5 := NB220_219.out; have hcz6_0 : w4.cell? ⟨gb219, 0, none⟩ = some (.int .i64 a0_0) := cl BK219.out 0 rfl; have hcz6_1 : w4.cell? ⟨gb219, 1, none⟩ = some (.int .i64 a0_1) := cl BK219.out 1 rfl; have hcz6_2 : w4.cell? ⟨gb219, 2, none⟩ = some (.slice A0_2 l0_2.length c0_2) := cl BK219.out 2 rfl; have hfz6_0 := fz BK219.out 0; have hfz6_1 := fz BK219.out 1; have hfz6_2 := fz BK219.out 2) | ((with_reducible refine gate_callee (f := 86) rfl ?_); refine goesL_ (some 5) rfl rfl Try.func86 (by kernel_rfl) rfl #[.slice A0_2 l0_2.length c0_2] rfl (by (try simp only [List.map_toArray, List.map_cons, List.map_nil]); first | done | rfl | (simp only [List.length_drop, List.length_take]; rfl)) ?_; (with_reducible refine (impl_TableRange_86.calls _ _ l0_2 t221 _ ?side1 ?side2 A2.out).mono ?_); (case side1 => repeat (first | exact (Kd.C_below HR0_2.out HB.out) | (with_reducible refine Kd.C_alloc ?_ _) | (with_reducible refine Kd.C_drewN ?_ _) | (with_reducible refine Kd.C_drew ?_))); (case side2 => exact HC0_2.out); rintro e w7 ⟨v222, rfl, ho0, hb⟩; refine ⟨_, rfl, ?_⟩; have n0_ := Aside0.mk (Kd.R_lower ho0 (below_size (by repeat (first | (with_reducible first | exact HB.out | apply ba | apply bn | apply bd | refine bt ?_ GE219.out | refine bt ?_ GE220.out) | exact HB.out)))); have n1_ := Aside0.mk (blk_below (g := gb219) (o := .cells #[.int .i64 a0_0, .int .i64 a0_1, .slice A0_2 l0_2.length c0_2] 29 (0, 0)) (by (with_reducible repeat (first | refine blk_drewN ?_ _ | refine blk_drew ?_ | refine blk_alloc ?_ _)); exact BK219.out) hb); have n2_ := Aside0.mk (blk_below (g := gb220) (o := .cells #[.int .i64 0, .int .i64 0, .slice none 0 0] 29 (0, 0)) (by (with_reducible repeat (first | refine blk_drewN ?_ _ | refine blk_drew ?_ | refine blk_alloc ?_ _)); exact BK220.out) hb); have n3_ := Aside0.mk (below_step (by repeat (first | (with_reducible first | exact HB.out | apply ba | apply bn | apply bd | refine bt ?_ GE219.out | refine bt ?_ GE220.out) | exact HB.out)) hb); clear BK219; clear BK220; clear HB; have HO223 := n0_; have BK219 := n1_; have BK220 := n2_; have HB := n3_; clear n0_ n1_ n2_ n3_; (try clear hb); (try clear hb2); (try clear hk); (try clear hi); (try clear ho0); obtain ⟨Ao8, co8, eo8⟩ := Kd.R_slice HO223.out; subst eo8; have hcz9_0 : w7.cell? ⟨gb219, 0, none⟩ = some (.int .i64 a0_0) := cl BK219.out 0 rfl; have hcz9_1 : w7.cell? ⟨gb219, 1, none⟩ = some (.int .i64 a0_1) := cl BK219.out 1 rfl; have hcz9_2 : w7.cell? ⟨gb219, 2, none⟩ = some (.slice A0_2 l0_2.length c0_2) := cl BK219.out 2 rfl; have hfz9_0 := fz BK219.out 0; have hfz9_1 := fz BK219.out 1; have hfz9_2 := fz BK219.out 2; have hcz10_0 : w7.cell? ⟨gb220, 0, none⟩ = some (.int .i64 0) := cl BK220.out 0 rfl; have hcz10_1 : w7.cell? ⟨gb220, 1, none⟩ = some (.int .i64 0) := cl BK220.out 1 rfl; have hcz10_2 : w7.cell? ⟨gb220, 2, none⟩ = some (.slice none 0 0) := cl BK220.out 2 rfl; have hfz10_0 := fz BK220.out 0; have hfz10_1 := fz BK220.out 1; have hfz10_2 := fz BK220.out 2))
 refine bodyPost_ret (results_cell_row rfl _ _ gb220 29 #[.int .i64 a0_0, .int .i64 a0_1, .slice Ao8 t221.length co8] (0, 0) _ rfl (by (with_reducible repeat (first | refine blk_drewN ?_ _ | refine blk_drew ?_ | refine blk_alloc ?_ _)); refine blk_put (cs := #[.int .i64 a0_0, .int .i64 a0_1, .slice none 0 0]) ?_ 2 _ rfl; (with_reducible repeat (first | refine blk_drewN ?_ _ | refine blk_drew ?_ | refine blk_alloc ?_ _)); refine blk_put (cs := #[.int .i64 a0_0, .int .i64 0, .slice none 0 0]) ?_ 1 _ rfl; (with_reducible repeat (first | refine blk_drewN ?_ _ | refine blk_drew ?_ | refine blk_alloc ?_ _)); refine blk_put (cs := #[.int .i64 0, .int .i64 0, .slice none 0 0]) ?_ 0 _ rfl; (with_reducible repeat (first | refine blk_drewN ?_ _ | refine blk_drew ?_ | refine blk_alloc ?_ _)); refine blk_far ?_ NB220_219.out _; (with_reducible repeat (first | refine blk_drewN ?_ _ | refine blk_drew ?_ | refine blk_alloc ?_ _)); exact BK220.out) Try.underlying29 rfl (by kernel_rfl)) rfl ?_
 exact ⟨_, by first | rfl | (simp [errW_none, errW_some] <;> rfl) | (simp [*, errW_none, errW_some] <;> rfl), by (with_reducible repeat (first | apply Kd.R_alloc | apply Kd.R_drewN | apply Kd.R_drew)); exact Kd.R_mono (rF (rF (rF (rG (Kd.R_types (Kd.R_types HO223.out BK219.out (by decide)) BK220.out (by decide)) _ _) _ _) _ _) _ _) (fun _ hk => trivial), by repeat (first | (with_reducible first | exact HB.out | apply ba | apply bn | apply bd | refine bt ?_ GE219.out | refine bt ?_ GE220.out) | exact HB.out)⟩

/-! ### impl_TableLeave_1_1: function 67 -/
def impl_TableLeave_1_1.f (a0_0 : Int) (a0_1 : Int) (a0_2 : Int) (a1_0 : Int) : Option (Bool) := some (a0_2 == a1_0)
set_option maxHeartbeats 8000000 in
set_option maxRecDepth 100000 in
theorem impl_TableLeave_1_1.calls (a0_0 : Int) (a0_1 : Int) (a0_2 : Int) (g1 : Nat) (a1_0 : Int) (r : Bool) (w : World) (hk1 : w.heap[g1]? = some (.cells #[.int .i64 a1_0] 3 (0, 0))) (h : impl_TableLeave_1_1.f a0_0 a0_1 a0_2 a1_0 = some r) :
  Calls Try.prog 67 #[.agg #[.int .i64 a0_0, .int .i64 a0_1, .int .i64 a0_2], .pointer (some ⟨g1, 0, none⟩)] w fun e w' => e = .returned (.bool r) ∧ Below w.heap.size w w' := by
 have hu40 := Try.underlying40
 have BK5000001 := Aside0.mk hk1
 clear hk1
 have HB := Aside0.mk (Below.refl w.heap.size w)
 have H : (some (a0_2 == a1_0)) = some r := h
 clear h
 obtain rfl := Option.some.inj H
 go_enter Try.func67, Try.ntmps67
 go_wp2_with (first | ((with_reducible refine gate_dst (N := 2) rfl ?_); refine box_event ?hg (N := 2) ?hd (cs := #[.int .i64 a0_0, .int .i64 a0_1, .int .i64 a0_2]) (t := 40) ?hr ?_; (case hd => rfl); (case hg => rfl); (case hr => first | (go_simp; done) | (go_simp; rfl)); intro gb224 hg w3 hbox hb; have n0_ := Aside0.mk (blk_below (g := g1) (o := .cells #[.int .i64 a1_0] 3 (0, 0)) (by (with_reducible repeat (first | refine blk_drewN ?_ _ | refine blk_drew ?_ | refine blk_alloc ?_ _)); exact BK5000001.out) hb); have n1_ := Aside0.mk (below_step (by repeat (first | (with_reducible first | exact HB.out | apply ba | apply bn | apply bd | refine bt ?_ GE5000001.out) | exact HB.out)) hb); have n2_ := Aside0.mk (hbox); have n3_ := Aside0.mk ((by rw [hg]; exact (below_size (by repeat (first | (with_reducible first | exact HB.out | apply ba | apply bn | apply bd | refine bt ?_ GE5000001.out) | exact HB.out))) : w.heap.size ≤ gb224)); have n4_ := Aside0.mk ((by rw [hg]; exact (below_size (by repeat (first | (with_reducible first | exact HB.out | apply ba | apply bn | apply bd | refine bt ?_ GE5000001.out) | exact HB.out))) : w.heap.size ≤ gb224)); have n5_ := Aside0.mk ((by rw [hg]; exact Nat.ne_of_lt (blk_lt (g := g1) (o := .cells #[.int .i64 a1_0] 3 (0, 0)) (by (with_reducible repeat (first | refine blk_drewN ?_ _ | refine blk_drew ?_ | refine blk_alloc ?_ _)); exact BK5000001.out)) : g1 ≠ gb224)); have n6_ := Aside0.mk ((by rw [hg]; exact Nat.ne_of_gt (blk_lt (g := g1) (o := .cells #[.int .i64 a1_0] 3 (0, 0)) (by (with_reducible repeat (first | refine blk_drewN ?_ _ | refine blk_drew ?_ | refine blk_alloc ?_ _)); exact BK5000001.out)) : gb224 ≠ g1)); clear BK5000001; clear HB; have BK5000001 := n0_; have HB := n1_; have BK224 := n2_; have GW224 := n3_; have GE224 := n4_; have NB5000001_224 := n5_; have NB224_5000001 := n6_; clear n0_ n1_ n2_ n3_ n4_ n5_ n6_; clear hb hbox hg; have hnb4 := NB224_5000001.out; have hnc4 := NB5000001_224.out; have hcz5_0 : w3.cell? ⟨gb224, 0, none⟩ = some (.int .i64 a0_0) := cl BK224.out 0 rfl; have hcz5_1 : w3.cell? ⟨gb224, 1, none⟩ = some (.int .i64 a0_1) := cl BK224.out 1 rfl; have hcz5_2 : w3.cell? ⟨gb224, 2, none⟩ = some (.int .i64 a0_2) := cl BK224.out 2 rfl; have hfz5_0 := fz BK224.out 0; have hfz5_1 := fz BK224.out 1; have hfz5_2 := fz BK224.out 2; have hcz6_0 : w3.cell? ⟨g1, 0, none⟩ = some (.int .i64 a1_0) := cl BK5000001.out 0 rfl; have hfz6_0 := fz BK5000001.out 0))
 go_ret
 exact ⟨by first | rfl | (simp [errW_none, errW_some] <;> rfl) | (simp [*, errW_none, errW_some] <;> rfl), by repeat (first | (with_reducible first | exact HB.out | apply ba | apply bn | apply bd | refine bt ?_ GE5000001.out | refine bt ?_ GE224.out) | exact HB.out)⟩

/-! ### slices_IndexFunc_81_v67: function 81 -/
def slices_IndexFunc_81_v67.l0 : Nat → List (S40) → Int → Int → Int → Option (Int)
 | 0, _, _, _, _ => none
 | k + 1, x0, x7, x8, x5000101000 => if x8 < x7 then (if 0 ≤ x8 then (if x8 < (x0.length : Int) then ((impl_TableLeave_1_1.f ((rd_T40 x0 x8).f0) ((rd_T40 x0 x8).f1) ((rd_T40 x0 x8).f2) x5000101000).bind fun t226 => (if t226 = true then (some x8) else (slices_IndexFunc_81_v67.l0 k x0 x7 (wrap64 (x8 + 1)) x5000101000))) else (none)) else (none)) else (some (-1))
def slices_IndexFunc_81_v67.f (k : Nat) (l0 : List (S40)) (a1c0_0 : Int) : Option (Int) := slices_IndexFunc_81_v67.l0 k l0 (l0.length : Int) 0 a1c0_0
theorem slices_IndexFunc_81_v67.mono_l : ∀ k, (∀ y0 y1 y2 y3, LeO (slices_IndexFunc_81_v67.l0 k y0 y1 y2 y3) (slices_IndexFunc_81_v67.l0 (k + 1) y0 y1 y2 y3))
 | 0 => fun _ _ _ _ r h => by simp [slices_IndexFunc_81_v67.l0] at h
 | k + 1 => by
  have ih0 := slices_IndexFunc_81_v67.mono_l k
  ·intro y0 y1 y2 y3
   unfold slices_IndexFunc_81_v67.l0
   repeat' first
   | (with_reducible exact ih0 _ _ _ _)
   | (with_reducible exact LeO.refl _)
   | (with_reducible exact LeO.none _)
   | (with_reducible refine LeO.ite ?_ ?_)
   | (with_reducible refine LeO.bind ?_ (fun _ => ?_))
   | exact ih0 _ _ _ _
   | exact LeO.none _
   | refine LeO.ite ?_ ?_
   | refine LeO.bind ?_ (fun _ => ?_)
theorem slices_IndexFunc_81_v67.mono : ∀ a0 a1 k, LeO (slices_IndexFunc_81_v67.f k a0 a1) (slices_IndexFunc_81_v67.f (k + 1) a0 a1) := by
 intro a0 a1 k
 have ih0 := slices_IndexFunc_81_v67.mono_l k
 unfold slices_IndexFunc_81_v67.f
 repeat' first
   | (with_reducible exact ih0 _ _ _ _)
   | (with_reducible exact LeO.refl _)
   | (with_reducible exact LeO.none _)
   | (with_reducible refine LeO.ite ?_ ?_)
   | (with_reducible refine LeO.bind ?_ (fun _ => ?_))
   | exact ih0 _ _ _ _
   | exact LeO.none _
   | refine LeO.ite ?_ ?_
   | refine LeO.bind ?_ (fun _ => ?_)
set_option maxHeartbeats 8000000 in
set_option maxRecDepth 100000 in
theorem slices_IndexFunc_81_v67.calls (k : Nat) (A0 : Option Addr) (c0 : Nat) (l0 : List (S40)) (g1c0 : Nat) (a1c0_0 : Int) (r : Int) (w : World) (hr0 : Kd.C k40 w A0 l0.length l0) (hc0 : l0.length ≤ c0) (hk1c0 : w.heap[g1c0]? = some (.cells #[.int .i64 a1c0_0] 3 (0, 0))) (h : slices_IndexFunc_81_v67.f k l0 a1c0_0 = some r) :
  Calls Try.prog 81 #[.slice A0 l0.length c0, .func (.func 67) #[] #[.pointer (some ⟨g1c0, 0, none⟩)]] w fun e w' => e = .returned (.int .i64 r) ∧ Below w.heap.size w w' := by
 have hu40 := Try.underlying40
 have HR0 := Aside0.mk hr0
 have HC0 := Aside0.mk hc0
 clear hr0 hc0
 have BK5000100 := Aside0.mk hk1c0
 clear hk1c0
 have HB := Aside0.mk (Below.refl w.heap.size w)
 have H : (slices_IndexFunc_81_v67.l0 k l0 (l0.length : Int) 0 a1c0_0) = some r := h
 clear h
 have H' := Aside0.mk H
 clear H
 go_enter Try.func81, Try.ntmps81
 go_wp2
 go_loopg [8] k (fun kq v8 w' => ∃ (x8_1 : Int), v8 = .int .i64 x8_1 ∧ Aside0 (slices_IndexFunc_81_v67.l0 kq l0 (l0.length : Int) x8_1 a1c0_0 = some r) ∧ Aside0 (kq ≤ k) ∧ Aside0 (w'.heap[g1c0]? = some (.cells #[.int .i64 a1c0_0] 3 (0, 0))) ∧ Aside0 (Below w.heap.size w w'))
 case atStart => exact ⟨(0), (by first | rfl | (simp; done) | (simp [*]; done)), H', ⟨Nat.le_refl _⟩, ⟨by (with_reducible repeat (first | refine blk_drewN ?_ _ | refine blk_drew ?_ | refine blk_alloc ?_ _)); exact BK5000100.out⟩, ⟨by repeat (first | (with_reducible first | exact HB.out | apply ba | apply bn | apply bd | refine bt ?_ GE5000100.out) | exact HB.out)⟩⟩
 case round =>
  clear H'
  try clear p2
  obtain ⟨x8_1, rfl, HA, HK1, BK5000100, HB⟩ := hrel
  cases gk with
  | zero => exact absurd HA.out (by simp [slices_IndexFunc_81_v67.l0])
  | succ k1 =>
   have H := HA.out
   clear HA
   simp only [slices_IndexFunc_81_v67.l0] at H
   by_cases c3 : x8_1 < (l0.length : Int)
   ·rw [if_pos c3] at H
    have c3b0 : decide (x8_1 < (l0.length : Int)) = true := decide_eq_true c3
    clear c3
    by_cases c4 : 0 ≤ x8_1
    ·rw [if_pos c4] at H
     have c4b0 : decide (0 ≤ x8_1) = true := decide_eq_true c4
     clear c4
     by_cases c5 : x8_1 < (l0.length : Int)
     ·rw [if_pos c5] at H
      have c5b0 : decide (x8_1 < (l0.length : Int)) = true := decide_eq_true c5
      clear c5
      replace H := Option.bind_eq_some_iff.mp H
      obtain ⟨t226, A60, H⟩ := H
      replace H : (if t226 = true then (some x8_1) else (slices_IndexFunc_81_v67.l0 k1 l0 (l0.length : Int) (wrap64 (x8_1 + 1)) a1c0_0)) = some r := H
      have A6 := Aside0.mk A60
      clear A60
      by_cases c7 : t226 = true
      ·subst c7
       have H1 : (some x8_1) = some r := by rw [if_pos rfl] at H; exact H
       clear H
       have H := H1
       clear H1
       obtain rfl := Option.some.inj H
       have p225 : 0 ≤ (x8_1 : Int) := of_decide_eq_true (by first | (with_reducible assumption) | assumption)
       have q225 : x8_1 < (l0.length : Int) := of_decide_eq_true (by first | (with_reducible assumption) | assumption)
       obtain ⟨ad225, e225, hx225_0, hx225_1, hx225_2⟩ := at_T40 HR0.out x8_1 p225 q225
       cases e225
       replace hx225_0 := tc HB.out hx225_0
       replace hx225_1 := tc HB.out hx225_1
       replace hx225_2 := tc HB.out hx225_2
       replace p225 := eq_true p225
       replace q225 := eq_true q225
       go_wp2_with (first | ((with_reducible refine gate_calleeV (p := 11) rfl ?_); refine goesV_ (some 16) rfl rfl Try.func67 (by kernel_rfl) rfl #[.agg #[.int .i64 ((rd_T40 l0 x8_1).f0), .int .i64 ((rd_T40 l0 x8_1).f1), .int .i64 ((rd_T40 l0 x8_1).f2)]] #[.pointer (some ⟨g1c0, 0, none⟩)] #[.agg #[.int .i64 ((rd_T40 l0 x8_1).f0), .int .i64 ((rd_T40 l0 x8_1).f1), .int .i64 ((rd_T40 l0 x8_1).f2)], .pointer (some ⟨g1c0, 0, none⟩)] rfl (by first | rfl | (go_simp; done)) (by (try simp only [List.map_toArray, List.map_cons, List.map_nil]); first | done | rfl | (simp only [List.length_drop, List.length_take]; rfl)) rfl ?_; (with_reducible refine (impl_TableLeave_1_1.calls ((rd_T40 l0 x8_1).f0) ((rd_T40 l0 x8_1).f1) ((rd_T40 l0 x8_1).f2) g1c0 a1c0_0 true _ ?side1 A6.out).mono ?_); (case side1 => (with_reducible repeat (first | refine blk_drewN ?_ _ | refine blk_drew ?_ | refine blk_alloc ?_ _)); exact BK5000100.out); rintro e w8 ⟨rfl, hb⟩; refine ⟨_, rfl, ?_⟩; have n0_ := Aside0.mk (blk_below (g := g1c0) (o := .cells #[.int .i64 a1c0_0] 3 (0, 0)) (by (with_reducible repeat (first | refine blk_drewN ?_ _ | refine blk_drew ?_ | refine blk_alloc ?_ _)); exact BK5000100.out) hb); have n1_ := Aside0.mk (below_step (by repeat (first | (with_reducible first | exact HB.out | apply ba | apply bn | apply bd | refine bt ?_ GE5000100.out) | exact HB.out)) hb); clear BK5000100; clear HB; have BK5000100 := n0_; have HB := n1_; clear n0_ n1_; (try clear hb); (try clear hb2); (try clear hk); (try clear hi)))
       go_ret
       exact ⟨by first | rfl | (simp [errW_none, errW_some] <;> rfl) | (simp [*, errW_none, errW_some] <;> rfl), by repeat (first | (with_reducible first | exact HB.out | apply ba | apply bn | apply bd | refine bt ?_ GE5000100.out) | exact HB.out)⟩
      ·replace c7 := Bool.eq_false_iff.mpr c7
       subst c7
       have H1 : (slices_IndexFunc_81_v67.l0 k1 l0 (l0.length : Int) (wrap64 (x8_1 + 1)) a1c0_0) = some r := by rw [if_neg (show ¬ (false = true) by decide)] at H; exact H
       clear H
       have H := H1
       clear H1
       have H' := Aside0.mk H
       clear H
       have p225 : 0 ≤ (x8_1 : Int) := of_decide_eq_true (by first | (with_reducible assumption) | assumption)
       have q225 : x8_1 < (l0.length : Int) := of_decide_eq_true (by first | (with_reducible assumption) | assumption)
       obtain ⟨ad225, e225, hx225_0, hx225_1, hx225_2⟩ := at_T40 HR0.out x8_1 p225 q225
       cases e225
       replace hx225_0 := tc HB.out hx225_0
       replace hx225_1 := tc HB.out hx225_1
       replace hx225_2 := tc HB.out hx225_2
       replace p225 := eq_true p225
       replace q225 := eq_true q225
       go_wp2_with (first | ((with_reducible refine gate_calleeV (p := 11) rfl ?_); refine goesV_ (some 16) rfl rfl Try.func67 (by kernel_rfl) rfl #[.agg #[.int .i64 ((rd_T40 l0 x8_1).f0), .int .i64 ((rd_T40 l0 x8_1).f1), .int .i64 ((rd_T40 l0 x8_1).f2)]] #[.pointer (some ⟨g1c0, 0, none⟩)] #[.agg #[.int .i64 ((rd_T40 l0 x8_1).f0), .int .i64 ((rd_T40 l0 x8_1).f1), .int .i64 ((rd_T40 l0 x8_1).f2)], .pointer (some ⟨g1c0, 0, none⟩)] rfl (by first | rfl | (go_simp; done)) (by (try simp only [List.map_toArray, List.map_cons, List.map_nil]); first | done | rfl | (simp only [List.length_drop, List.length_take]; rfl)) rfl ?_; (with_reducible refine (impl_TableLeave_1_1.calls ((rd_T40 l0 x8_1).f0) ((rd_T40 l0 x8_1).f1) ((rd_T40 l0 x8_1).f2) g1c0 a1c0_0 false _ ?side1 A6.out).mono ?_); (case side1 => (with_reducible repeat (first | refine blk_drewN ?_ _ | refine blk_drew ?_ | refine blk_alloc ?_ _)); exact BK5000100.out); rintro e w9 ⟨rfl, hb⟩; refine ⟨_, rfl, ?_⟩; have n0_ := Aside0.mk (blk_below (g := g1c0) (o := .cells #[.int .i64 a1c0_0] 3 (0, 0)) (by (with_reducible repeat (first | refine blk_drewN ?_ _ | refine blk_drew ?_ | refine blk_alloc ?_ _)); exact BK5000100.out) hb); have n1_ := Aside0.mk (below_step (by repeat (first | (with_reducible first | exact HB.out | apply ba | apply bn | apply bd | refine bt ?_ GE5000100.out) | exact HB.out)) hb); clear BK5000100; clear HB; have BK5000100 := n0_; have HB := n1_; clear n0_ n1_; (try clear hb); (try clear hb2); (try clear hk); (try clear hi)))
       go_roundg k1
       case measure => have := HK1.out; omega
       case rel => exact ⟨(wrap64 (x8_1 + 1)), (by first | rfl | (simp; done) | (simp [*]; done)), H', ⟨by have := HK1.out; omega⟩, ⟨by (with_reducible repeat (first | refine blk_drewN ?_ _ | refine blk_drew ?_ | refine blk_alloc ?_ _)); exact BK5000100.out⟩, ⟨by repeat (first | (with_reducible first | exact HB.out | apply ba | apply bn | apply bd | refine bt ?_ GE5000100.out) | exact HB.out)⟩⟩
     ·rw [if_neg c5] at H
      exact absurd H (by simp)
    ·rw [if_neg c4] at H
     exact absurd H (by simp)
   ·rw [if_neg c3] at H
    have c3b0 : decide (x8_1 < (l0.length : Int)) = false := decide_eq_false c3
    clear c3
    obtain rfl := Option.some.inj H
    go_wp2
    go_ret
    exact ⟨by first | rfl | (simp [errW_none, errW_some] <;> rfl) | (simp [*, errW_none, errW_some] <;> rfl), by repeat (first | (with_reducible first | exact HB.out | apply ba | apply bn | apply bd | refine bt ?_ GE5000100.out) | exact HB.out)⟩

/-! ### slices_ContainsFunc_66_v67: function 66 -/
def slices_ContainsFunc_66_v67.f (k : Nat) (l0 : List (S40)) (a1c0_0 : Int) : Option (Bool) := (slices_IndexFunc_81_v67.f k l0 a1c0_0).bind fun t227 => (some (decide (t227 ≥ 0)))
theorem slices_ContainsFunc_66_v67.mono : ∀ a0 a1 k, LeO (slices_ContainsFunc_66_v67.f k a0 a1) (slices_ContainsFunc_66_v67.f (k + 1) a0 a1) := by
 intro a0 a1 k
 unfold slices_ContainsFunc_66_v67.f
 repeat' first
   | (with_reducible exact slices_IndexFunc_81_v67.mono _ _ _)
   | (with_reducible exact LeO.refl _)
   | (with_reducible exact LeO.none _)
   | (with_reducible refine LeO.ite ?_ ?_)
   | (with_reducible refine LeO.bind ?_ (fun _ => ?_))
   | exact slices_IndexFunc_81_v67.mono _ _ _
   | exact LeO.none _
   | refine LeO.ite ?_ ?_
   | refine LeO.bind ?_ (fun _ => ?_)
set_option maxHeartbeats 8000000 in
set_option maxRecDepth 100000 in
theorem slices_ContainsFunc_66_v67.calls (k : Nat) (A0 : Option Addr) (c0 : Nat) (l0 : List (S40)) (g1c0 : Nat) (a1c0_0 : Int) (r : Bool) (w : World) (hr0 : Kd.C k40 w A0 l0.length l0) (hc0 : l0.length ≤ c0) (hk1c0 : w.heap[g1c0]? = some (.cells #[.int .i64 a1c0_0] 3 (0, 0))) (h : slices_ContainsFunc_66_v67.f k l0 a1c0_0 = some r) :
  Calls Try.prog 66 #[.slice A0 l0.length c0, .func (.func 67) #[] #[.pointer (some ⟨g1c0, 0, none⟩)]] w fun e w' => e = .returned (.bool r) ∧ Below w.heap.size w w' := by
 have HR0 := Aside0.mk hr0
 have HC0 := Aside0.mk hc0
 clear hr0 hc0
 have BK5000100 := Aside0.mk hk1c0
 clear hk1c0
 have HB := Aside0.mk (Below.refl w.heap.size w)
 have H : ((slices_IndexFunc_81_v67.f k l0 a1c0_0).bind fun t227 => (some (decide (t227 ≥ 0)))) = some r := h
 clear h
 replace H := Option.bind_eq_some_iff.mp H
 obtain ⟨t227, A30, H⟩ := H
 replace H : (some (decide (t227 ≥ 0))) = some r := H
 have A3 := Aside0.mk A30
 clear A30
 obtain rfl := Option.some.inj H
 go_enter Try.func66, Try.ntmps66
 go_wp2_with (first | ((with_reducible refine gate_callee (f := 81) rfl ?_); refine goesL_ (some 7) rfl rfl Try.func81 (by kernel_rfl) rfl #[.slice A0 l0.length c0, .func (.func 67) #[] #[.pointer (some ⟨g1c0, 0, none⟩)]] rfl (by (try simp only [List.map_toArray, List.map_cons, List.map_nil]); first | done | rfl | (simp only [List.length_drop, List.length_take]; rfl)) ?_; (with_reducible refine (slices_IndexFunc_81_v67.calls k _ _ l0 g1c0 a1c0_0 t227 _ ?side1 ?side2 ?side3 A3.out).mono ?_); (case side1 => repeat (first | exact HR0.out | (with_reducible refine Kd.C_alloc ?_ _) | (with_reducible refine Kd.C_drewN ?_ _) | (with_reducible refine Kd.C_drew ?_))); (case side2 => exact HC0.out); (case side3 => (with_reducible repeat (first | refine blk_drewN ?_ _ | refine blk_drew ?_ | refine blk_alloc ?_ _)); exact BK5000100.out); rintro e w4 ⟨rfl, hb⟩; refine ⟨_, rfl, ?_⟩; have n0_ := Aside0.mk (blk_below (g := g1c0) (o := .cells #[.int .i64 a1c0_0] 3 (0, 0)) (by (with_reducible repeat (first | refine blk_drewN ?_ _ | refine blk_drew ?_ | refine blk_alloc ?_ _)); exact BK5000100.out) hb); have n1_ := Aside0.mk (below_step (by repeat (first | (with_reducible first | exact HB.out | apply ba | apply bn | apply bd | refine bt ?_ GE5000100.out) | exact HB.out)) hb); clear BK5000100; clear HB; have BK5000100 := n0_; have HB := n1_; clear n0_ n1_; (try clear hb); (try clear hb2); (try clear hk); (try clear hi)))
 go_ret
 exact ⟨by first | rfl | (simp [errW_none, errW_some] <;> rfl) | (simp [*, errW_none, errW_some] <;> rfl), by repeat (first | (with_reducible first | exact HB.out | apply ba | apply bn | apply bd | refine bt ?_ GE5000100.out) | exact HB.out)⟩

/-! ### impl_TableLeave_1: function 65 -/
theorem impl_TableLeave_1.keep {B : Nat} {g0 : Nat} {k t : Nat} {v : Value} {l : List (S40)} {ok : Nat → Prop} {w w' : World} {cs : Array Value} (hx : ∀ k, k < w.heap.size → k ≠ g0 → some k ≠ v.ownBlock → w'.heap[k]? = w.heap[k]?) (hb : w.heap[k]? = some (.cells cs t (0, 0))) (hr : Kd.R k40 40 w B ok v l) (hne : k ≠ g0) (ht : 40 ≠ t) : w'.heap[k]? = some (.cells cs t (0, 0)) := (hx k (blk_lt hb) hne (Kd.R_ne hr hb ht)).trans hb
theorem impl_TableLeave_1.still {B g0 : Nat} {r a0 a1 : Int} {v : Value} {l : List (S40)} {w W : World} (hB : B ≤ g0) (hk : w.heap[g0]? = some (.cells #[.int .i64 a0, .int .i64 a1, v] 29 (0, 0))) (ho : Kd.R k40 40 w B (fun _ => True) v l) (hb : Below w.heap.size w W) :
  ∃ v1 : Value, (Ending.returned (.int .i64 r)) = .returned (.int .i64 r) ∧ W.heap[g0]? = some (.cells #[.int .i64 a0, .int .i64 a1, v1] 29 (0, 0)) ∧ Kd.R k40 40 W B (fun _ => True) v1 l ∧ (∀ k, k < w.heap.size → k ≠ g0 → some k ≠ v.ownBlock → W.heap[k]? = w.heap[k]?) ∧ Below B w W :=
  ⟨v, rfl, blk_below hk hb, Kd.R_below ho hb, fun k hk _ _ => hb.block k hk, hb.mono (by have := blk_lt hk; omega)⟩
theorem impl_TableLeave_1.put1 {B g0 : Nat} {r a0 a1 b1 : Int} {v : Value} {l : List (S40)} {w W : World} (hB : B ≤ g0) (hk : w.heap[g0]? = some (.cells #[.int .i64 a0, .int .i64 a1, v] 29 (0, 0))) (ho : Kd.R k40 40 w B (fun _ => True) v l) (hb : Below w.heap.size w W) :
  ∃ v1 : Value, (Ending.returned (.int .i64 r)) = .returned (.int .i64 r) ∧ (W.setCell ⟨g0, 1, none⟩ (.int .i64 b1)).heap[g0]? = some (.cells #[.int .i64 a0, .int .i64 b1, v1] 29 (0, 0)) ∧ Kd.R k40 40 (W.setCell ⟨g0, 1, none⟩ (.int .i64 b1)) B (fun _ => True) v1 l ∧ (∀ k, k < w.heap.size → k ≠ g0 → some k ≠ v.ownBlock → (W.setCell ⟨g0, 1, none⟩ (.int .i64 b1)).heap[k]? = w.heap[k]?) ∧ Below B w (W.setCell ⟨g0, 1, none⟩ (.int .i64 b1)) :=
  ⟨v, rfl, blk_put (blk_below hk hb) 1 _ rfl, Kd.R_mono (rF (Kd.R_types (Kd.R_below ho hb) (blk_below hk hb) (by decide)) _ _) (fun _ _ => trivial), fun k hk1 hne _ => (Below.heap_setCell W ⟨g0, 1, none⟩ (.int .i64 b1) k hne).trans (hb.block k hk1), (hb.mono (by have := blk_lt hk; omega)).setCell hB _⟩
theorem impl_TableLeave_1.put1d {B g0 : Nat} {r a0 a1 b1 : Int} {v : Value} {l : List (S40)} {w W : World} (hB : B ≤ g0) (hk : w.heap[g0]? = some (.cells #[.int .i64 a0, .int .i64 a1, v] 29 (0, 0))) (ho : Kd.R k40 40 w B (fun _ => True) v l) (hb : Below w.heap.size w W) :
  ∃ v1 : Value, (Ending.returned (.int .i64 r)) = .returned (.int .i64 r) ∧ (W.setCell ⟨g0, 1, none⟩ (.int .i64 b1)).drew.heap[g0]? = some (.cells #[.int .i64 a0, .int .i64 b1, v1] 29 (0, 0)) ∧ Kd.R k40 40 ((W.setCell ⟨g0, 1, none⟩ (.int .i64 b1)).drew) B (fun _ => True) v1 l ∧ (∀ k, k < w.heap.size → k ≠ g0 → some k ≠ v.ownBlock → (W.setCell ⟨g0, 1, none⟩ (.int .i64 b1)).drew.heap[k]? = w.heap[k]?) ∧ Below B w (W.setCell ⟨g0, 1, none⟩ (.int .i64 b1)).drew := by
  obtain ⟨v1, a, b, c, e, f⟩ := impl_TableLeave_1.put1 (r := r) (b1 := b1) hB hk ho hb
  exact ⟨v1, a, b, Kd.R_drew c, e, bd f⟩
def impl_TableLeave_1.f (k : Nat) (a0_0 : Int) (a0_1 : Int) (l0_2 : List (S40)) (a1_0 : Int) : Option (Int × Int × Int × List (S40)) := (impl_has.f a0_1 a1_0).bind fun t228 => (if t228 = true then ((slices_ContainsFunc_66_v67.f k l0_2 a1_0).bind fun t229 => (if t229 = true then (some (8, a0_0, a0_1, l0_2)) else (if 0 ≤ a1_0 then (some (0, a0_0, (Go.bits .andNot .i64 a0_1 (shl .i64 1 a1_0)), l0_2)) else (none)))) else (some (6, a0_0, a0_1, l0_2)))
theorem impl_TableLeave_1.mono : ∀ a0 a1 a2 a3 k, LeO (impl_TableLeave_1.f k a0 a1 a2 a3) (impl_TableLeave_1.f (k + 1) a0 a1 a2 a3) := by
 intro a0 a1 a2 a3 k
 unfold impl_TableLeave_1.f
 repeat' first
   | (with_reducible exact slices_ContainsFunc_66_v67.mono _ _ _)
   | (with_reducible exact LeO.refl _)
   | (with_reducible exact LeO.none _)
   | (with_reducible refine LeO.ite ?_ ?_)
   | (with_reducible refine LeO.bind ?_ (fun _ => ?_))
   | exact slices_ContainsFunc_66_v67.mono _ _ _
   | exact LeO.none _
   | refine LeO.ite ?_ ?_
   | refine LeO.bind ?_ (fun _ => ?_)
def impl_TableLeave_1.T1 : Bool × List (List Nat × List Nat) := (true, [([], []), ([0], [0]), ([1], [1]), ([2], [2]), ([], []), ([3, 4], [3, 4]), ([5], [5]), ([6, 5], [6])])
def impl_TableLeave_1.B1 : List Nat := [0, 1, 3, 7, 0, 31, 63, 127]
theorem impl_TableLeave_1.tab1 : rtab .any (opsOf Try.f65 1) = impl_TableLeave_1.T1 := by kernel_rfl
theorem impl_TableLeave_1.bits1 : waitsOk impl_TableLeave_1.T1.2 impl_TableLeave_1.B1 = true := by kernel_rfl
def impl_TableLeave_1.T5 : Bool × List (List Nat × List Nat) := (true, [([], []), ([0], [0]), ([1], [1]), ([2], [2]), ([], []), ([4], [4]), ([3, 5], [3, 5]), ([0, 0, 1, 2, 3, 4, 5, 6], [0]), ([7, 0, 1, 2, 3, 4, 5, 6], [7]), ([8, 6, 0, 1, 2, 3, 4, 5, 6], [6, 8])])
def impl_TableLeave_1.B5 : List Nat := [0, 1, 3, 7, 0, 16, 63, 127, 255, 511]
theorem impl_TableLeave_1.tab5 : rtab .any (opsOf Try.f65 5) = impl_TableLeave_1.T5 := by kernel_rfl
theorem impl_TableLeave_1.bits5 : waitsOk impl_TableLeave_1.T5.2 impl_TableLeave_1.B5 = true := by kernel_rfl
set_option maxHeartbeats 8000000 in
set_option maxRecDepth 100000 in
theorem impl_TableLeave_1.calls (k : Nat) (B : Nat) (g0 : Nat) (a0_0 : Int) (a0_1 : Int) (A0_2 : Option Addr) (c0_2 : Nat) (l0_2 : List (S40)) (g1 : Nat) (a1_0 : Int) (r : Int) (e1 : Int) (m1 : Int) (l1 : List (S40)) (w : World) (hB : B ≤ g0) (hk0 : w.heap[g0]? = some (.cells #[.int .i64 a0_0, .int .i64 a0_1, .slice A0_2 l0_2.length c0_2] 29 (0, 0))) (hk1 : w.heap[g1]? = some (.cells #[.int .i64 a1_0] 3 (0, 0))) (ho : Kd.R k40 40 w B (fun _ => True) (.slice A0_2 l0_2.length c0_2) l0_2) (h : impl_TableLeave_1.f k a0_0 a0_1 l0_2 a1_0 = some (r, e1, m1, l1)) :
  Calls Try.prog 65 #[.pointer (some ⟨g0, 0, none⟩), .pointer (some ⟨g1, 0, none⟩)] w fun e w' => ∃ v1 : Value, e = .returned (.int .i64 r) ∧ w'.heap[g0]? = some (.cells #[.int .i64 e1, .int .i64 m1, v1] 29 (0, 0)) ∧ Kd.R k40 40 w' B (fun _ => True) v1 l1 ∧ (∀ k, k < w.heap.size → k ≠ g0 → some k ≠ (Value.slice A0_2 l0_2.length c0_2).ownBlock → w'.heap[k]? = w.heap[k]?) ∧ Below B w w' := by
 have NB5000001_5000000 := Aside0.mk (blk_ne hk1 hk0 (by decide) : g1 ≠ g0)
 have NB5000000_5000001 := Aside0.mk (blk_ne hk0 hk1 (by decide) : g0 ≠ g1)
 have HO0 := Aside0.mk ho
 have HK0 := Aside0.mk hk0
 have HR0_2 := Aside0.mk (Kd.R_reads' ho).2.2
 have HC0_2 := Aside0.mk (Kd.R_reads' ho).2.1
 clear ho
 have BK5000000 := Aside0.mk hk0
 clear hk0
 have BK5000001 := Aside0.mk hk1
 clear hk1
 have HB := Aside0.mk (Below.refl w.heap.size w)
 have H : ((impl_has.f a0_1 a1_0).bind fun t228 => (if t228 = true then ((slices_ContainsFunc_66_v67.f k l0_2 a1_0).bind fun t229 => (if t229 = true then (some (8, a0_0, a0_1, l0_2)) else (if 0 ≤ a1_0 then (some (0, a0_0, (Go.bits .andNot .i64 a0_1 (shl .i64 1 a1_0)), l0_2)) else (none)))) else (some (6, a0_0, a0_1, l0_2)))) = some (r, e1, m1, l1) := h
 clear h
 replace H := Option.bind_eq_some_iff.mp H
 obtain ⟨t228, A30, H⟩ := H
 replace H : (if t228 = true then ((slices_ContainsFunc_66_v67.f k l0_2 a1_0).bind fun t229 => (if t229 = true then (some (8, a0_0, a0_1, l0_2)) else (if 0 ≤ a1_0 then (some (0, a0_0, (Go.bits .andNot .i64 a0_1 (shl .i64 1 a1_0)), l0_2)) else (none)))) else (some (6, a0_0, a0_1, l0_2))) = some (r, e1, m1, l1) := H
 have A3 := Aside0.mk A30
 clear A30
 by_cases c4 : t228 = true
 ·subst c4
  have H1 : ((slices_ContainsFunc_66_v67.f k l0_2 a1_0).bind fun t229 => (if t229 = true then (some (8, a0_0, a0_1, l0_2)) else (if 0 ≤ a1_0 then (some (0, a0_0, (Go.bits .andNot .i64 a0_1 (shl .i64 1 a1_0)), l0_2)) else (none)))) = some (r, e1, m1, l1) := by rw [if_pos rfl] at H; exact H
  clear H
  have H := H1
  clear H1
  replace H := Option.bind_eq_some_iff.mp H
  obtain ⟨t229, A50, H⟩ := H
  replace H : (if t229 = true then (some (8, a0_0, a0_1, l0_2)) else (if 0 ≤ a1_0 then (some (0, a0_0, (Go.bits .andNot .i64 a0_1 (shl .i64 1 a1_0)), l0_2)) else (none))) = some (r, e1, m1, l1) := H
  have A5 := Aside0.mk A50
  clear A50
  by_cases c6 : t229 = true
  ·subst c6
   have H1 : (some (8, a0_0, a0_1, l0_2)) = some (r, e1, m1, l1) := by rw [if_pos rfl] at H; exact H
   clear H
   have H := H1
   clear H1
   simp only [Option.some.injEq, Prod.mk.injEq] at H; obtain ⟨rfl, rfl, rfl, rfl⟩ := H
   go_enter Try.func65, Try.ntmps65
   try go_wp2
   refine start_ (n := 8) (S := fun w' => w'.cell? ⟨g0, 0, none⟩ = some (.int .i64 a0_0) ∧ w'.cell? ⟨g0, 1, none⟩ = some (.int .i64 a0_1) ∧ w'.cell? ⟨g0, 2, none⟩ = some (.slice A0_2 l0_2.length c0_2) ∧ w'.cell? ⟨g1, 0, none⟩ = some (.int .i64 a1_0)) (ds := []) #[false, false, false, false, false, false, false, false] (by kernel_rfl) rfl rfl ⟨cl BK5000000.out 0 rfl, cl BK5000000.out 1 rfl, cl BK5000000.out 2 rfl, cl BK5000001.out 0 rfl⟩ (fun hHeld => ?_); refine with_tabW impl_TableLeave_1.tab1 impl_TableLeave_1.bits1 (fun HT_ HW_ => ?_)
   refine pa_ 0 (some 5) (any_of HT_.out (by kernel_rfl)) ?_
   refine pa_ 1 (some 6) (any_of HT_.out (by kernel_rfl)) ?_
   refine pa_ 2 (some 7) (any_of HT_.out (by kernel_rfl)) ?_
   refine take_ (i := 3) (N := some 8) (v := ?_) (a' := ?_) #[true, true, true, true, false, false, false, false] rfl rfl (take_ofW HT_.out HW_.out (by kernel_rfl)) (fun _ _ _ h => h) (Or.inl ⟨by rfl, ?_⟩) hHeld ?_ ?_
   rotate_left
   ·rintro w' ⟨s0, s1, s2, s3⟩
    go_simp
    with_reducible rfl
   rotate_left
   ·simp only [Act.put, List.setIfInBounds_toArray, List.set_cons_zero, List.set_cons_succ, i64_w, i32_w]
    rfl
   refine take_ (i := 4) (N := some 9) (v := ?_) (a' := ?_) #[true, true, true, true, true, false, false, false] rfl rfl (take_ofW HT_.out HW_.out (by kernel_rfl)) (fun _ _ _ h => h) (Or.inl ⟨by rfl, ?_⟩) hHeld ?_ ?_
   rotate_left
   ·rintro w' ⟨s0, s1, s2, s3⟩
    go_simp
    with_reducible rfl
   rotate_left
   ·simp only [Act.put, List.setIfInBounds_toArray, List.set_cons_zero, List.set_cons_succ, i64_w, i32_w]
    rfl
   refine one_ (i := 5) (N := some 10) #[true, true, true, true, true, true, false, false] rfl rfl (one_of HT_.out (by kernel_rfl)) (by decide) (fun K hK => ?_)
   refine goes_ Try.func50 (by kernel_rfl) rfl #[.int .i64 a0_1, .int .i64 a1_0] (by rfl) rfl rfl (by (try simp only [List.map_toArray, List.map_cons, List.map_nil]); first | done | rfl | (simp only [List.length_drop, List.length_take]; rfl)) ?_
   with_reducible refine (impl_has.calls a0_1 a1_0 true _ A3.out).mono ?_
   rintro e w' ⟨rfl, ⟨nd, rfl⟩⟩
   refine ⟨_, rfl, ?_⟩
   refine hK.out _ _ ⟨cl BK5000000.out 0 rfl, cl BK5000000.out 1 rfl, cl BK5000000.out 2 rfl, cl BK5000001.out 0 rfl⟩ (fun hHeld => ?_)
   clear hK K
   refine norm_ (a' := ?_) ?_ ?_
   rotate_left
   ·show Act.put _ (some 10) _ = _
    simp only [Act.put, List.setIfInBounds_toArray, List.set_cons_zero, List.set_cons_succ, i64_w, i32_w]
    rfl
   refine pa_ 6 (some 11) (any_of HT_.out (by kernel_rfl)) ?_
   refine pa_ 7 (some 4) (any_of HT_.out (by kernel_rfl)) ?_
   refine done_ (done_of HT_.out (by kernel_rfl)) ?_
   have hnb8 := NB5000000_5000001.out
   have hnc8 := NB5000001_5000000.out
   have hcz9_0 : w.cell? ⟨g0, 0, none⟩ = some (.int .i64 a0_0) := cl BK5000000.out 0 rfl
   have hcz9_1 : w.cell? ⟨g0, 1, none⟩ = some (.int .i64 a0_1) := cl BK5000000.out 1 rfl
   have hcz9_2 : w.cell? ⟨g0, 2, none⟩ = some (.slice A0_2 l0_2.length c0_2) := cl BK5000000.out 2 rfl
   have hfz9_0 := fz BK5000000.out 0
   have hfz9_1 := fz BK5000000.out 1
   have hfz9_2 := fz BK5000000.out 2
   try go_wp2_with (first | ((with_reducible refine gate_callee (f := 66) rfl ?_); refine goesL_ (some 18) rfl rfl Try.func66 (by kernel_rfl) rfl #[.slice A0_2 l0_2.length c0_2, .func (.func 67) #[] #[.pointer (some ⟨g1, 0, none⟩)]] rfl (by (try simp only [List.map_toArray, List.map_cons, List.map_nil]); first | done | rfl | (simp only [List.length_drop, List.length_take]; rfl)) ?_; (with_reducible refine (slices_ContainsFunc_66_v67.calls k _ _ l0_2 g1 a1_0 true _ ?side1 ?side2 ?side3 A5.out).mono ?_); (case side1 => repeat (first | exact (Kd.C_below HR0_2.out (by repeat (first | (with_reducible first | exact HB.out | apply ba | apply bn | apply bd | refine bt ?_ GE5000000.out | refine bt ?_ GE5000001.out) | exact HB.out))) | (with_reducible refine Kd.C_alloc ?_ _) | (with_reducible refine Kd.C_drewN ?_ _) | (with_reducible refine Kd.C_drew ?_))); (case side2 => exact HC0_2.out); (case side3 => (with_reducible repeat (first | refine blk_drewN ?_ _ | refine blk_drew ?_ | refine blk_alloc ?_ _)); exact BK5000001.out); rintro e w10 ⟨rfl, hb⟩; refine ⟨_, rfl, ?_⟩; have n0_ := Aside0.mk (blk_below (g := g0) (o := .cells #[.int .i64 a0_0, .int .i64 a0_1, .slice A0_2 l0_2.length c0_2] 29 (0, 0)) (by (with_reducible repeat (first | refine blk_drewN ?_ _ | refine blk_drew ?_ | refine blk_alloc ?_ _)); exact BK5000000.out) hb); have n1_ := Aside0.mk (blk_below (g := g1) (o := .cells #[.int .i64 a1_0] 3 (0, 0)) (by (with_reducible repeat (first | refine blk_drewN ?_ _ | refine blk_drew ?_ | refine blk_alloc ?_ _)); exact BK5000001.out) hb); have n2_ := Aside0.mk (below_step (by repeat (first | (with_reducible first | exact HB.out | apply ba | apply bn | apply bd | refine bt ?_ GE5000000.out | refine bt ?_ GE5000001.out) | exact HB.out)) hb); clear BK5000000; clear BK5000001; clear HB; have BK5000000 := n0_; have BK5000001 := n1_; have HB := n2_; clear n0_ n1_ n2_; (try clear hb); (try clear hb2); (try clear hk); (try clear hi)))
   go_ret
   exact impl_TableLeave_1.still hB HK0.out HO0.out (by repeat (first | (with_reducible first | exact HB.out | apply ba | apply bn | apply bd) | exact HB.out))
  ·replace c6 := Bool.eq_false_iff.mpr c6
   subst c6
   have H1 : (if 0 ≤ a1_0 then (some (0, a0_0, (Go.bits .andNot .i64 a0_1 (shl .i64 1 a1_0)), l0_2)) else (none)) = some (r, e1, m1, l1) := by rw [if_neg (show ¬ (false = true) by decide)] at H; exact H
   clear H
   have H := H1
   clear H1
   by_cases c11 : 0 ≤ a1_0
   ·rw [if_pos c11] at H
    have c11b0 := eq_true c11
    have c11b1 : decide (0 ≤ a1_0) = true := decide_eq_true c11
    clear c11
    obtain ⟨ji12, hji12⟩ : ∃ j_ : Int, (shl .i64 1 a1_0) = j_ := ⟨_, rfl⟩
    replace H : (some (0, a0_0, (Go.bits .andNot .i64 a0_1 ji12), l0_2)) = some (r, e1, m1, l1) := by first | (rw [hji12] at H; exact H) | (simp only [hji12] at H ⊢; exact H)
    (try rw [hji12] at A3)
    (try rw [hji12] at A5)
    have hji12_ : (IntKind.i64.wrap (1 * 2 ^ min a1_0.toNat 64)) = ji12 := hji12
    have hji12z : a1_0 ≤ 64 → (IntKind.i64.wrap (1 * 2 ^ a1_0.toNat)) = ji12 := shl_small hji12
    have hji12u : (IntKind.i64.wrap (2 ^ min a1_0.toNat 64)) = ji12 := by have h_ := hji12_; rw [Int.one_mul] at h_; exact h_
    have hji12v : a1_0 ≤ 64 → (IntKind.i64.wrap (2 ^ a1_0.toNat)) = ji12 := fun hle_ => by have h_ := hji12z hle_; rw [Int.one_mul] at h_; exact h_
    have hji12y : (wrap64 (1 * 2 ^ min a1_0.toNat 64)) = ji12 := (i64_w _).symm.trans hji12_
    have hji12x : a1_0 ≤ 64 → (wrap64 (1 * 2 ^ a1_0.toNat)) = ji12 := fun h_ => (i64_w _).symm.trans (hji12z h_)
    simp only [Option.some.injEq, Prod.mk.injEq] at H; obtain ⟨rfl, rfl, rfl, rfl⟩ := H
    go_enter Try.func65, Try.ntmps65
    try go_wp2
    refine start_ (n := 8) (S := fun w' => w'.cell? ⟨g0, 0, none⟩ = some (.int .i64 a0_0) ∧ w'.cell? ⟨g0, 1, none⟩ = some (.int .i64 a0_1) ∧ w'.cell? ⟨g0, 2, none⟩ = some (.slice A0_2 l0_2.length c0_2) ∧ w'.cell? ⟨g1, 0, none⟩ = some (.int .i64 a1_0)) (ds := []) #[false, false, false, false, false, false, false, false] (by kernel_rfl) rfl rfl ⟨cl BK5000000.out 0 rfl, cl BK5000000.out 1 rfl, cl BK5000000.out 2 rfl, cl BK5000001.out 0 rfl⟩ (fun hHeld => ?_); refine with_tabW impl_TableLeave_1.tab1 impl_TableLeave_1.bits1 (fun HT_ HW_ => ?_)
    refine pa_ 0 (some 5) (any_of HT_.out (by kernel_rfl)) ?_
    refine pa_ 1 (some 6) (any_of HT_.out (by kernel_rfl)) ?_
    refine pa_ 2 (some 7) (any_of HT_.out (by kernel_rfl)) ?_
    refine take_ (i := 3) (N := some 8) (v := ?_) (a' := ?_) #[true, true, true, true, false, false, false, false] rfl rfl (take_ofW HT_.out HW_.out (by kernel_rfl)) (fun _ _ _ h => h) (Or.inl ⟨by rfl, ?_⟩) hHeld ?_ ?_
    rotate_left
    ·rintro w' ⟨s0, s1, s2, s3⟩
     go_simp
     with_reducible rfl
    rotate_left
    ·simp only [Act.put, List.setIfInBounds_toArray, List.set_cons_zero, List.set_cons_succ, i64_w, i32_w]
     rfl
    refine take_ (i := 4) (N := some 9) (v := ?_) (a' := ?_) #[true, true, true, true, true, false, false, false] rfl rfl (take_ofW HT_.out HW_.out (by kernel_rfl)) (fun _ _ _ h => h) (Or.inl ⟨by rfl, ?_⟩) hHeld ?_ ?_
    rotate_left
    ·rintro w' ⟨s0, s1, s2, s3⟩
     go_simp
     with_reducible rfl
    rotate_left
    ·simp only [Act.put, List.setIfInBounds_toArray, List.set_cons_zero, List.set_cons_succ, i64_w, i32_w]
     rfl
    refine one_ (i := 5) (N := some 10) #[true, true, true, true, true, true, false, false] rfl rfl (one_of HT_.out (by kernel_rfl)) (by decide) (fun K hK => ?_)
    refine goes_ Try.func50 (by kernel_rfl) rfl #[.int .i64 a0_1, .int .i64 a1_0] (by rfl) rfl rfl (by (try simp only [List.map_toArray, List.map_cons, List.map_nil]); first | done | rfl | (simp only [List.length_drop, List.length_take]; rfl)) ?_
    with_reducible refine (impl_has.calls a0_1 a1_0 true _ A3.out).mono ?_
    rintro e w' ⟨rfl, ⟨nd, rfl⟩⟩
    refine ⟨_, rfl, ?_⟩
    refine hK.out _ _ ⟨cl BK5000000.out 0 rfl, cl BK5000000.out 1 rfl, cl BK5000000.out 2 rfl, cl BK5000001.out 0 rfl⟩ (fun hHeld => ?_)
    clear hK K
    refine norm_ (a' := ?_) ?_ ?_
    rotate_left
    ·show Act.put _ (some 10) _ = _
     simp only [Act.put, List.setIfInBounds_toArray, List.set_cons_zero, List.set_cons_succ, i64_w, i32_w]
     rfl
    refine pa_ 6 (some 11) (any_of HT_.out (by kernel_rfl)) ?_
    refine pa_ 7 (some 4) (any_of HT_.out (by kernel_rfl)) ?_
    refine done_ (done_of HT_.out (by kernel_rfl)) ?_
    have hnb14 := NB5000000_5000001.out
    have hnc14 := NB5000001_5000000.out
    have hcz15_0 : w.cell? ⟨g0, 0, none⟩ = some (.int .i64 a0_0) := cl BK5000000.out 0 rfl
    have hcz15_1 : w.cell? ⟨g0, 1, none⟩ = some (.int .i64 a0_1) := cl BK5000000.out 1 rfl
    have hcz15_2 : w.cell? ⟨g0, 2, none⟩ = some (.slice A0_2 l0_2.length c0_2) := cl BK5000000.out 2 rfl
    have hfz15_0 := fz BK5000000.out 0
    have hfz15_1 := fz BK5000000.out 1
    have hfz15_2 := fz BK5000000.out 2
    try go_wp2_with (first | ((with_reducible refine gate_callee (f := 66) rfl ?_); refine goesL_ (some 18) rfl rfl Try.func66 (by kernel_rfl) rfl #[.slice A0_2 l0_2.length c0_2, .func (.func 67) #[] #[.pointer (some ⟨g1, 0, none⟩)]] rfl (by (try simp only [List.map_toArray, List.map_cons, List.map_nil]); first | done | rfl | (simp only [List.length_drop, List.length_take]; rfl)) ?_; (with_reducible refine (slices_ContainsFunc_66_v67.calls k _ _ l0_2 g1 a1_0 false _ ?side1 ?side2 ?side3 A5.out).mono ?_); (case side1 => repeat (first | exact (Kd.C_below HR0_2.out HB.out) | (with_reducible refine Kd.C_alloc ?_ _) | (with_reducible refine Kd.C_drewN ?_ _) | (with_reducible refine Kd.C_drew ?_))); (case side2 => exact HC0_2.out); (case side3 => (with_reducible repeat (first | refine blk_drewN ?_ _ | refine blk_drew ?_ | refine blk_alloc ?_ _)); exact BK5000001.out); rintro e w16 ⟨rfl, hb⟩; refine ⟨_, rfl, ?_⟩; have n0_ := Aside0.mk (blk_below (g := g0) (o := .cells #[.int .i64 a0_0, .int .i64 a0_1, .slice A0_2 l0_2.length c0_2] 29 (0, 0)) (by (with_reducible repeat (first | refine blk_drewN ?_ _ | refine blk_drew ?_ | refine blk_alloc ?_ _)); exact BK5000000.out) hb); have n1_ := Aside0.mk (blk_below (g := g1) (o := .cells #[.int .i64 a1_0] 3 (0, 0)) (by (with_reducible repeat (first | refine blk_drewN ?_ _ | refine blk_drew ?_ | refine blk_alloc ?_ _)); exact BK5000001.out) hb); have n2_ := Aside0.mk (below_step (by repeat (first | (with_reducible first | exact HB.out | apply ba | apply bn | apply bd | refine bt ?_ GE5000000.out | refine bt ?_ GE5000001.out) | exact HB.out)) hb); clear BK5000000; clear BK5000001; clear HB; have BK5000000 := n0_; have BK5000001 := n1_; have HB := n2_; clear n0_ n1_ n2_; (try clear hb); (try clear hb2); (try clear hk); (try clear hi)))
    refine start_ (n := 10) (S := fun w' => w'.cell? ⟨g0, 0, none⟩ = some (.int .i64 a0_0) ∧ w'.cell? ⟨g0, 1, none⟩ = some (.int .i64 a0_1) ∧ w'.cell? ⟨g0, 2, none⟩ = some (.slice A0_2 l0_2.length c0_2) ∧ w'.cell? ⟨g1, 0, none⟩ = some (.int .i64 a1_0)) (ds := [9]) #[false, false, false, false, false, false, false, false, false, false] (by kernel_rfl) rfl rfl ⟨cl BK5000000.out 0 rfl, cl BK5000000.out 1 rfl, cl BK5000000.out 2 rfl, cl BK5000001.out 0 rfl⟩ (fun hHeld => ?_); refine with_tabW impl_TableLeave_1.tab5 impl_TableLeave_1.bits5 (fun HT_ HW_ => ?_)
    refine pa_ 0 (some 19) (any_of HT_.out (by kernel_rfl)) ?_
    refine pa_ 1 (some 20) (any_of HT_.out (by kernel_rfl)) ?_
    refine pa_ 2 (some 21) (any_of HT_.out (by kernel_rfl)) ?_
    refine take_ (i := 3) (N := some 22) (v := ?_) (a' := ?_) #[true, true, true, true, false, false, false, false, false, false] rfl rfl (take_ofW HT_.out HW_.out (by kernel_rfl)) (fun _ _ _ h => h) (Or.inl ⟨by rfl, ?_⟩) hHeld ?_ ?_
    rotate_left
    ·rintro w' ⟨s0, s1, s2, s3⟩
     go_simp
     with_reducible rfl
    rotate_left
    ·simp only [Act.put, List.setIfInBounds_toArray, List.set_cons_zero, List.set_cons_succ, i64_w, i32_w]
     rfl
    refine take_ (i := 4) (N := some 23) (v := ?_) (a' := ?_) #[true, true, true, true, true, false, false, false, false, false] rfl rfl (take_ofW HT_.out HW_.out (by kernel_rfl)) (fun _ _ _ h => h) (Or.inl ⟨by rfl, ?_⟩) hHeld ?_ ?_
    rotate_left
    ·rintro w' ⟨s0, s1, s2, s3⟩
     go_simp
     with_reducible rfl
    rotate_left
    ·simp only [Act.put, List.setIfInBounds_toArray, List.set_cons_zero, List.set_cons_succ, i64_w, i32_w]
     rfl
    refine pa_ 5 (some 24) (any_of HT_.out (by kernel_rfl)) ?_
    refine pa_ 6 (some 25) (any_of HT_.out (by kernel_rfl)) ?_
    refine pa_ 7 (some 26) (any_of HT_.out (by kernel_rfl)) ?_
    refine pa_ 8 (some 27) (any_of HT_.out (by kernel_rfl)) ?_
    refine last_ (i := 9) (N := none) #[true, true, true, true, true, true, true, true, true, true] rfl rfl (one_of HT_.out (by kernel_rfl)) (by decide) (fun K hK => ?_)
    have hs18 : w16.cell? ⟨g0, 1, none⟩ = some (.int .i64 a0_1) := cl BK5000000.out 1 rfl
    have hfs18 := fz BK5000000.out 1
    have hns18_1 := NB5000001_5000000.out
    have hms18_1 := NB5000000_5000001.out
    refine skip_ (w1 := ?_) (by rfl) rfl ?_ ?_
    rotate_left
    ·go_simp
     rfl
    refine hK.out _ _ ?_
    clear hK K
    refine done_ (done_of HT_.out (by kernel_rfl)) ?_
    try go_wp2
    go_ret
    first | exact impl_TableLeave_1.put1 hB HK0.out HO0.out (by repeat (first | (with_reducible first | exact HB.out | apply ba | apply bn | apply bd) | exact HB.out)) | exact impl_TableLeave_1.put1d hB HK0.out HO0.out HB.out
   ·rw [if_neg c11] at H
    exact absurd H (by simp)
 ·replace c4 := Bool.eq_false_iff.mpr c4
  subst c4
  have H1 : (some (6, a0_0, a0_1, l0_2)) = some (r, e1, m1, l1) := by rw [if_neg (show ¬ (false = true) by decide)] at H; exact H
  clear H
  have H := H1
  clear H1
  simp only [Option.some.injEq, Prod.mk.injEq] at H; obtain ⟨rfl, rfl, rfl, rfl⟩ := H
  go_enter Try.func65, Try.ntmps65
  try go_wp2
  refine start_ (n := 8) (S := fun w' => w'.cell? ⟨g0, 0, none⟩ = some (.int .i64 a0_0) ∧ w'.cell? ⟨g0, 1, none⟩ = some (.int .i64 a0_1) ∧ w'.cell? ⟨g0, 2, none⟩ = some (.slice A0_2 l0_2.length c0_2) ∧ w'.cell? ⟨g1, 0, none⟩ = some (.int .i64 a1_0)) (ds := []) #[false, false, false, false, false, false, false, false] (by kernel_rfl) rfl rfl ⟨cl BK5000000.out 0 rfl, cl BK5000000.out 1 rfl, cl BK5000000.out 2 rfl, cl BK5000001.out 0 rfl⟩ (fun hHeld => ?_); refine with_tabW impl_TableLeave_1.tab1 impl_TableLeave_1.bits1 (fun HT_ HW_ => ?_)
  refine pa_ 0 (some 5) (any_of HT_.out (by kernel_rfl)) ?_
  refine pa_ 1 (some 6) (any_of HT_.out (by kernel_rfl)) ?_
  refine pa_ 2 (some 7) (any_of HT_.out (by kernel_rfl)) ?_
  refine take_ (i := 3) (N := some 8) (v := ?_) (a' := ?_) #[true, true, true, true, false, false, false, false] rfl rfl (take_ofW HT_.out HW_.out (by kernel_rfl)) (fun _ _ _ h => h) (Or.inl ⟨by rfl, ?_⟩) hHeld ?_ ?_
  rotate_left
  ·rintro w' ⟨s0, s1, s2, s3⟩
   go_simp
   with_reducible rfl
  rotate_left
  ·simp only [Act.put, List.setIfInBounds_toArray, List.set_cons_zero, List.set_cons_succ, i64_w, i32_w]
   rfl
  refine take_ (i := 4) (N := some 9) (v := ?_) (a' := ?_) #[true, true, true, true, true, false, false, false] rfl rfl (take_ofW HT_.out HW_.out (by kernel_rfl)) (fun _ _ _ h => h) (Or.inl ⟨by rfl, ?_⟩) hHeld ?_ ?_
  rotate_left
  ·rintro w' ⟨s0, s1, s2, s3⟩
   go_simp
   with_reducible rfl
  rotate_left
  ·simp only [Act.put, List.setIfInBounds_toArray, List.set_cons_zero, List.set_cons_succ, i64_w, i32_w]
   rfl
  refine one_ (i := 5) (N := some 10) #[true, true, true, true, true, true, false, false] rfl rfl (one_of HT_.out (by kernel_rfl)) (by decide) (fun K hK => ?_)
  refine goes_ Try.func50 (by kernel_rfl) rfl #[.int .i64 a0_1, .int .i64 a1_0] (by rfl) rfl rfl (by (try simp only [List.map_toArray, List.map_cons, List.map_nil]); first | done | rfl | (simp only [List.length_drop, List.length_take]; rfl)) ?_
  with_reducible refine (impl_has.calls a0_1 a1_0 false _ A3.out).mono ?_
  rintro e w' ⟨rfl, ⟨nd, rfl⟩⟩
  refine ⟨_, rfl, ?_⟩
  refine hK.out _ _ ⟨cl BK5000000.out 0 rfl, cl BK5000000.out 1 rfl, cl BK5000000.out 2 rfl, cl BK5000001.out 0 rfl⟩ (fun hHeld => ?_)
  clear hK K
  refine norm_ (a' := ?_) ?_ ?_
  rotate_left
  ·show Act.put _ (some 10) _ = _
   simp only [Act.put, List.setIfInBounds_toArray, List.set_cons_zero, List.set_cons_succ, i64_w, i32_w]
   rfl
  refine pa_ 6 (some 11) (any_of HT_.out (by kernel_rfl)) ?_
  refine pa_ 7 (some 4) (any_of HT_.out (by kernel_rfl)) ?_
  refine done_ (done_of HT_.out (by kernel_rfl)) ?_
  try go_wp2
  go_ret
  exact impl_TableLeave_1.still hB HK0.out HO0.out (by repeat (first | (with_reducible first | exact HB.out | apply ba | apply bn | apply bd) | exact HB.out))

end Go.Proofs.Ytekhlpkodgjdeaa.PFnExactTableLeave
