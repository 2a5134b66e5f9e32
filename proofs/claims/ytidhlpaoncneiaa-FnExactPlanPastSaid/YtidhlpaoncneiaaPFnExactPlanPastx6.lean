/- Printed by a program of this session over the kit's print, for function values too. Lean checks it. -/
import Derived.Test.YtidhlpaoncneiaaPFnExactPlanPastx0
import Derived.Test.YtidhlpaoncneiaaPFnExactPlanPastx5
namespace Go.Proofs.Ytidhlpaoncneiaa.PFnExactPlanPast
open Go.RowKit Go.Proofs.YtidhlpaoncneiaaH Go.Proofs.YtidhlpaoncneiaaW.PrintWords Go.Proofs.YtidhlpaoncneiaaW.PrintLast Go.Proofs.YtidhlpaoncneiaaW.PrintMore
attribute [local go_sem] max2_int min2_int max_two min_two max_three min_three max_four min_four   -- for this text's walks alone
set_option linter.unusedVariables false
set_option linter.unusedSimpArgs false

/-! ### impl_rising_75_v76: function 75 -/
def impl_rising_75_v76.l0 : Nat → List (S97) → Int → Option (Bool)
 | 0, _, _ => none
 | k + 1, x0, x5 => if x5 < (x0.length : Int) then (if 0 ≤ x5 then ((impl_PlanOk_2.f ((rd_T97 x0 x5).f0) ((rd_T97 x0 x5).f1) ((rd_T97 x0 x5).f2)).bind fun t216 => (if 0 ≤ (wrap64 (x5 - 1)) then (if (wrap64 (x5 - 1)) < (x0.length : Int) then ((impl_PlanOk_2.f ((rd_T97 x0 (wrap64 (x5 - 1))).f0) ((rd_T97 x0 (wrap64 (x5 - 1))).f1) ((rd_T97 x0 (wrap64 (x5 - 1))).f2)).bind fun t218 => (if t216 ≤ t218 then (some false) else (impl_rising_75_v76.l0 k x0 (wrap64 (x5 + 1))))) else (none)) else (none))) else (none)) else (some true)
def impl_rising_75_v76.f (k : Nat) (l0 : List (S97))  : Option (Bool) := impl_rising_75_v76.l0 k l0 1
theorem impl_rising_75_v76.mono_l : ∀ k, (∀ y0 y1, LeO (impl_rising_75_v76.l0 k y0 y1) (impl_rising_75_v76.l0 (k + 1) y0 y1))
 | 0 => fun _ _ r h => by simp [impl_rising_75_v76.l0] at h
 | k + 1 => by
  have ih0 := impl_rising_75_v76.mono_l k
  ·intro y0 y1
   unfold impl_rising_75_v76.l0
   repeat' first
   | (with_reducible exact ih0 _ _)
   | (with_reducible exact LeO.refl _)
   | (with_reducible exact LeO.none _)
   | (with_reducible refine LeO.ite ?_ ?_)
   | (with_reducible refine LeO.bind ?_ (fun _ => ?_))
   | exact ih0 _ _
   | exact LeO.none _
   | refine LeO.ite ?_ ?_
   | refine LeO.bind ?_ (fun _ => ?_)
theorem impl_rising_75_v76.mono : ∀ a0 k, LeO (impl_rising_75_v76.f k a0) (impl_rising_75_v76.f (k + 1) a0) := by
 intro a0 k
 have ih0 := impl_rising_75_v76.mono_l k
 unfold impl_rising_75_v76.f
 repeat' first
   | (with_reducible exact ih0 _ _)
   | (with_reducible exact LeO.refl _)
   | (with_reducible exact LeO.none _)
   | (with_reducible refine LeO.ite ?_ ?_)
   | (with_reducible refine LeO.bind ?_ (fun _ => ?_))
   | exact ih0 _ _
   | exact LeO.none _
   | refine LeO.ite ?_ ?_
   | refine LeO.bind ?_ (fun _ => ?_)
def impl_rising_75_v76.T4 : Bool × List (List Nat × List Nat) := (true, [([], []), ([], []), ([], []), ([1, 2], [1, 2]), ([3], [3]), ([0, 4], [0, 4]), ([], []), ([], []), ([], []), ([8], [8]), ([7, 9], [7, 9]), ([10], [10]), ([6, 11, 5], [6, 11]), ([5, 12], [5, 12])])
def impl_rising_75_v76.B4 : List Nat := [0, 0, 0, 6, 14, 31, 0, 0, 0, 256, 896, 1920, 4095, 8191]
theorem impl_rising_75_v76.tab4 : rtab .any (opsOf Try.f75 4) = impl_rising_75_v76.T4 := by kernel_rfl
theorem impl_rising_75_v76.bits4 : waitsOk impl_rising_75_v76.T4.2 impl_rising_75_v76.B4 = true := by kernel_rfl
set_option maxHeartbeats 8000000 in
set_option maxRecDepth 100000 in
theorem impl_rising_75_v76.calls (k : Nat) (A0 : Option Addr) (c0 : Nat) (l0 : List (S97))  (r : Bool) (w : World) (hr0 : Kd.C k97 w A0 l0.length l0) (hc0 : l0.length ≤ c0) (h : impl_rising_75_v76.f k l0 = some r) :
  Calls Try.prog 75 #[.slice A0 l0.length c0, .func (.func 76) #[] #[]] w fun e w' => e = .returned (.bool r) ∧ Below w.heap.size w w' := by
 have hu97 := Try.underlying97
 have HR0 := Aside0.mk hr0
 have HC0 := Aside0.mk hc0
 clear hr0 hc0
 have HB := Aside0.mk (Below.refl w.heap.size w)
 have H : (impl_rising_75_v76.l0 k l0 1) = some r := h
 clear h
 have H' := Aside0.mk H
 clear H
 go_enter Try.func75, Try.ntmps75
 go_wp2
 go_loopg [5] k (fun kq v5 w' => ∃ (x5_1 : Int), v5 = .int .i64 x5_1 ∧ Aside0 (impl_rising_75_v76.l0 kq l0 x5_1 = some r) ∧ Aside0 (kq ≤ k) ∧ Aside0 (Below w.heap.size w w'))
 case atStart => exact ⟨(1), (by first | rfl | (simp; done) | (simp [*]; done)), H', ⟨Nat.le_refl _⟩, ⟨by repeat (first | (with_reducible first | exact HB.out | apply ba | apply bn | apply bd) | exact HB.out)⟩⟩
 case round =>
  clear H'
  try clear p2
  obtain ⟨x5_1, rfl, HA, HK1, HB⟩ := hrel
  cases gk with
  | zero => exact absurd HA.out (by simp [impl_rising_75_v76.l0])
  | succ k1 =>
   have H := HA.out
   clear HA
   simp only [impl_rising_75_v76.l0] at H
   by_cases c3 : x5_1 < (l0.length : Int)
   ·rw [if_pos c3] at H
    have c3b0 : decide (x5_1 < (l0.length : Int)) = true := decide_eq_true c3
    clear c3
    by_cases c4 : 0 ≤ x5_1
    ·rw [if_pos c4] at H
     have c4b0 : decide (0 ≤ x5_1) = true := decide_eq_true c4
     clear c4
     replace H := Option.bind_eq_some_iff.mp H
     obtain ⟨t216, A50, H⟩ := H
     replace H : (if 0 ≤ (wrap64 (x5_1 - 1)) then (if (wrap64 (x5_1 - 1)) < (l0.length : Int) then ((impl_PlanOk_2.f ((rd_T97 l0 (wrap64 (x5_1 - 1))).f0) ((rd_T97 l0 (wrap64 (x5_1 - 1))).f1) ((rd_T97 l0 (wrap64 (x5_1 - 1))).f2)).bind fun t218 => (if t216 ≤ t218 then (some false) else (impl_rising_75_v76.l0 k1 l0 (wrap64 (x5_1 + 1))))) else (none)) else (none)) = some r := H
     have A5 := Aside0.mk A50
     clear A50
     obtain ⟨ji6, hji6⟩ : ∃ j_ : Int, (wrap64 (x5_1 - 1)) = j_ := ⟨_, rfl⟩
     replace H : (if 0 ≤ (ji6) then (if (ji6) < (l0.length : Int) then ((impl_PlanOk_2.f ((rd_T97 l0 (ji6)).f0) ((rd_T97 l0 (ji6)).f1) ((rd_T97 l0 (ji6)).f2)).bind fun t218 => (if t216 ≤ t218 then (some false) else (impl_rising_75_v76.l0 k1 l0 (wrap64 (x5_1 + 1))))) else (none)) else (none)) = some r := by first | (rw [hji6] at H; exact H) | (simp only [hji6] at H ⊢; exact H)
     (try rw [hji6] at A5)
     have hji6w : (IntKind.i64.wrap (x5_1 - 1)) = ji6 := (i64_w _).trans hji6
     by_cases c7 : 0 ≤ (ji6)
     ·rw [if_pos c7] at H
      have c7b0 : decide (0 ≤ (ji6)) = true := decide_eq_true c7
      clear c7
      by_cases c8 : (ji6) < (l0.length : Int)
      ·rw [if_pos c8] at H
       have c8b0 : decide ((ji6) < (l0.length : Int)) = true := decide_eq_true c8
       clear c8
       replace H := Option.bind_eq_some_iff.mp H
       obtain ⟨t218, A90, H⟩ := H
       replace H : (if t216 ≤ t218 then (some false) else (impl_rising_75_v76.l0 k1 l0 (wrap64 (x5_1 + 1)))) = some r := H
       have A9 := Aside0.mk A90
       clear A90
       by_cases c10 : t216 ≤ t218
       ·rw [if_pos c10] at H
        have c10b0 : decide (t216 ≤ t218) = true := decide_eq_true c10
        clear c10
        obtain rfl := Option.some.inj H
        try go_wp2
        have n0_ := Aside0.mk (below_drew1 HB.out)
        clear HB
        have HB := n0_
        clear n0_
        have p215 : 0 ≤ (x5_1 : Int) := of_decide_eq_true (by first | (with_reducible assumption) | assumption)
        have q215 : x5_1 < (l0.length : Int) := of_decide_eq_true (by first | (with_reducible assumption) | assumption)
        obtain ⟨ad215, e215, hx215_0, hx215_1, hx215_2⟩ := at_T97 HR0.out x5_1 p215 q215
        have hw215_2 := hx215_2
        have hw215_1 := hx215_1
        have hw215_0 := hx215_0
        cases e215
        replace hx215_0 := tc HB.out hx215_0
        replace hx215_1 := tc HB.out hx215_1
        replace hx215_2 := tc HB.out hx215_2
        replace p215 := eq_true p215
        replace q215 := eq_true q215
        have p217 : 0 ≤ ((ji6) : Int) := of_decide_eq_true (by first | (with_reducible assumption) | assumption)
        have q217 : (ji6) < (l0.length : Int) := of_decide_eq_true (by first | (with_reducible assumption) | assumption)
        obtain ⟨ad217, e217, hx217_0, hx217_1, hx217_2⟩ := at_T97 HR0.out (ji6) p217 q217
        have hw217_2 := hx217_2
        have hw217_1 := hx217_1
        have hw217_0 := hx217_0
        obtain rfl : ad215 = ad217 := (by injection e217)
        replace hx217_0 := tc HB.out hx217_0
        replace hx217_1 := tc HB.out hx217_1
        replace hx217_2 := tc HB.out hx217_2
        replace p217 := eq_true p217
        replace q217 := eq_true q217
        refine start_ (n := 14) (S := fun w' => w'.cell? (ad215.add ((x5_1).toNat * 3)) = some (.int .i64 ((rd_T97 l0 x5_1).f0)) ∧ w'.cell? ⟨(ad215.add ((x5_1).toNat * 3)).block, (ad215.add ((x5_1).toNat * 3)).off + 1, none⟩ = some (.int .i64 ((rd_T97 l0 x5_1).f1)) ∧ w'.cell? ⟨(ad215.add ((x5_1).toNat * 3)).block, (ad215.add ((x5_1).toNat * 3)).off + 2, none⟩ = some (.int .i64 ((rd_T97 l0 x5_1).f2)) ∧ w'.cell? (ad215.add (((ji6)).toNat * 3)) = some (.int .i64 ((rd_T97 l0 (ji6)).f0)) ∧ w'.cell? ⟨(ad215.add (((ji6)).toNat * 3)).block, (ad215.add (((ji6)).toNat * 3)).off + 1, none⟩ = some (.int .i64 ((rd_T97 l0 (ji6)).f1)) ∧ w'.cell? ⟨(ad215.add (((ji6)).toNat * 3)).block, (ad215.add (((ji6)).toNat * 3)).off + 2, none⟩ = some (.int .i64 ((rd_T97 l0 (ji6)).f2))) (ds := []) #[false, false, false, false, false, false, false, false, false, false, false, false, false, false] (by kernel_rfl) rfl rfl ⟨(tc HB.out hw215_0 :), (tc HB.out hw215_1 :), (tc HB.out hw215_2 :), (tc HB.out hw217_0 :), (tc HB.out hw217_1 :), (tc HB.out hw217_2 :)⟩ (fun hHeld => ?_); refine with_tabW impl_rising_75_v76.tab4 impl_rising_75_v76.bits4 (fun HT_ HW_ => ?_)
        generalize wr.drew = w11 at HB hx215_0 hx215_1 hx215_2 hx217_0 hx217_1 hx217_2 hHeld ⊢
        refine pa_ 0 (some 12) (any_of HT_.out (by kernel_rfl)) ?_
        refine pa_ 1 (some 13) (any_of HT_.out (by kernel_rfl)) ?_
        refine pa_ 2 (some 14) (any_of HT_.out (by kernel_rfl)) ?_
        refine pa_ 3 (some 15) (any_of HT_.out (by kernel_rfl)) ?_
        refine pa_ 6 (some 18) (any_of HT_.out (by kernel_rfl)) ?_
        refine pa_ 7 (some 19) (any_of HT_.out (by kernel_rfl)) ?_
        refine pa_ 8 (some 20) (any_of HT_.out (by kernel_rfl)) ?_
        refine pa_ 9 (some 21) (any_of HT_.out (by kernel_rfl)) ?_
        refine pa_ 10 (some 22) (any_of HT_.out (by kernel_rfl)) ?_
        refine take_ (i := 4) (N := some 16) (v := ?_) (a' := ?_) #[true, true, true, true, true, false, true, true, true, true, true, false, false, false] rfl rfl (take_ofW HT_.out HW_.out (by kernel_rfl)) (fun _ _ _ h => h) (Or.inl ⟨by rfl, ?_⟩) hHeld ?_ ?_
        rotate_left
        ·rintro w' ⟨s0, s1, s2, s3, s4, s5⟩
         go_simp
         with_reducible rfl
        rotate_left
        ·simp only [Act.put, List.setIfInBounds_toArray, List.set_cons_zero, List.set_cons_succ, i64_w, i32_w]
         rfl
        refine take_ (i := 11) (N := some 23) (v := ?_) (a' := ?_) #[true, true, true, true, true, false, true, true, true, true, true, true, false, false] rfl rfl (take_ofW HT_.out HW_.out (by kernel_rfl)) (fun _ _ _ h => h) (Or.inl ⟨by rfl, ?_⟩) hHeld ?_ ?_
        rotate_left
        ·rintro w' ⟨s0, s1, s2, s3, s4, s5⟩
         go_simp
         with_reducible rfl
        rotate_left
        ·simp only [Act.put, List.setIfInBounds_toArray, List.set_cons_zero, List.set_cons_succ, i64_w, i32_w]
         rfl
        refine one_ (i := 5) (N := some 17) #[true, true, true, true, true, true, true, true, true, true, true, true, false, false] rfl rfl (one_of HT_.out (by kernel_rfl)) (by decide) (fun K hK => ?_)
        refine goesW_ Try.func76 (by kernel_rfl) rfl #[.agg #[.int .i64 ((rd_T97 l0 x5_1).f0), .int .i64 ((rd_T97 l0 x5_1).f1), .int .i64 ((rd_T97 l0 x5_1).f2)]] #[] #[.agg #[.int .i64 ((rd_T97 l0 x5_1).f0), .int .i64 ((rd_T97 l0 x5_1).f1), .int .i64 ((rd_T97 l0 x5_1).f2)]] (by rfl) rfl rfl (by first | rfl | (go_simp; done)) (by (try simp only [List.map_toArray, List.map_cons, List.map_nil]); first | done | rfl | (simp only [List.length_drop, List.length_take]; rfl)) rfl ?_
        with_reducible refine (impl_PlanOk_2.calls ((rd_T97 l0 x5_1).f0) ((rd_T97 l0 x5_1).f1) ((rd_T97 l0 x5_1).f2) t216 _ A5.out).mono ?_
        rintro e w12 ⟨rfl, hb⟩
        refine ⟨_, rfl, ?_⟩
        have n0_ := Aside0.mk (below_step (by repeat (first | (with_reducible first | exact HB.out | apply ba | apply bn | apply bd) | exact HB.out)) hb)
        clear HB
        have HB := n0_
        clear n0_
        (try clear hb)
        (try clear hb2)
        (try clear hk)
        (try clear hi)
        refine hK.out _ _ ⟨(tc HB.out hw215_0 :), (tc HB.out hw215_1 :), (tc HB.out hw215_2 :), (tc HB.out hw217_0 :), (tc HB.out hw217_1 :), (tc HB.out hw217_2 :)⟩ (fun hHeld => ?_)
        clear hK K
        refine norm_ (a' := ?_) ?_ ?_
        rotate_left
        ·show Act.put _ (some 17) _ = _
         simp only [Act.put, List.setIfInBounds_toArray, List.set_cons_zero, List.set_cons_succ, i64_w, i32_w]
         rfl
        refine one_ (i := 12) (N := some 24) #[true, true, true, true, true, true, true, true, true, true, true, true, true, false] rfl rfl (one_of HT_.out (by kernel_rfl)) (by decide) (fun K hK => ?_)
        refine goesW_ Try.func76 (by kernel_rfl) rfl #[.agg #[.int .i64 ((rd_T97 l0 (ji6)).f0), .int .i64 ((rd_T97 l0 (ji6)).f1), .int .i64 ((rd_T97 l0 (ji6)).f2)]] #[] #[.agg #[.int .i64 ((rd_T97 l0 (ji6)).f0), .int .i64 ((rd_T97 l0 (ji6)).f1), .int .i64 ((rd_T97 l0 (ji6)).f2)]] (by rfl) rfl rfl (by first | rfl | (go_simp; done)) (by (try simp only [List.map_toArray, List.map_cons, List.map_nil]); first | done | (simp only [hji6]; rfl) | rfl | (simp only [List.length_drop, List.length_take]; rfl)) rfl ?_
        with_reducible refine (impl_PlanOk_2.calls ((rd_T97 l0 (ji6)).f0) ((rd_T97 l0 (ji6)).f1) ((rd_T97 l0 (ji6)).f2) t218 _ A9.out).mono ?_
        rintro e w13 ⟨rfl, hb⟩
        refine ⟨_, rfl, ?_⟩
        have n0_ := Aside0.mk (below_step (by repeat (first | (with_reducible first | exact HB.out | apply ba | apply bn | apply bd) | exact HB.out)) hb)
        clear HB
        have HB := n0_
        clear n0_
        (try clear hb)
        (try clear hb2)
        (try clear hk)
        (try clear hi)
        refine hK.out _ _ ⟨(tc HB.out hw215_0 :), (tc HB.out hw215_1 :), (tc HB.out hw215_2 :), (tc HB.out hw217_0 :), (tc HB.out hw217_1 :), (tc HB.out hw217_2 :)⟩ (fun hHeld => ?_)
        clear hK K
        refine norm_ (a' := ?_) ?_ ?_
        rotate_left
        ·show Act.put _ (some 24) _ = _
         simp only [Act.put, List.setIfInBounds_toArray, List.set_cons_zero, List.set_cons_succ, i64_w, i32_w]
         rfl
        refine pa_ 13 (some 25) (any_of HT_.out (by kernel_rfl)) ?_
        refine done_ (done_of HT_.out (by kernel_rfl)) ?_
        try go_wp2
        go_ret
        exact ⟨by first | rfl | (simp [errW_none, errW_some] <;> rfl) | (simp only [← hji6]; first | rfl | (simp [errW_none, errW_some] <;> rfl)) | (simp [*, errW_none, errW_some] <;> rfl), by repeat (first | (with_reducible first | exact HB.out | apply ba | apply bn | apply bd) | exact HB.out)⟩
       ·rw [if_neg c10] at H
        have c10b0 : decide (t216 ≤ t218) = false := decide_eq_false c10
        clear c10
        have H' := Aside0.mk H
        clear H
        try go_wp2
        have n0_ := Aside0.mk (below_drew1 HB.out)
        clear HB
        have HB := n0_
        clear n0_
        have p215 : 0 ≤ (x5_1 : Int) := of_decide_eq_true (by first | (with_reducible assumption) | assumption)
        have q215 : x5_1 < (l0.length : Int) := of_decide_eq_true (by first | (with_reducible assumption) | assumption)
        obtain ⟨ad215, e215, hx215_0, hx215_1, hx215_2⟩ := at_T97 HR0.out x5_1 p215 q215
        have hw215_2 := hx215_2
        have hw215_1 := hx215_1
        have hw215_0 := hx215_0
        cases e215
        replace hx215_0 := tc HB.out hx215_0
        replace hx215_1 := tc HB.out hx215_1
        replace hx215_2 := tc HB.out hx215_2
        replace p215 := eq_true p215
        replace q215 := eq_true q215
        have p217 : 0 ≤ ((ji6) : Int) := of_decide_eq_true (by first | (with_reducible assumption) | assumption)
        have q217 : (ji6) < (l0.length : Int) := of_decide_eq_true (by first | (with_reducible assumption) | assumption)
        obtain ⟨ad217, e217, hx217_0, hx217_1, hx217_2⟩ := at_T97 HR0.out (ji6) p217 q217
        have hw217_2 := hx217_2
        have hw217_1 := hx217_1
        have hw217_0 := hx217_0
        obtain rfl : ad215 = ad217 := (by injection e217)
        replace hx217_0 := tc HB.out hx217_0
        replace hx217_1 := tc HB.out hx217_1
        replace hx217_2 := tc HB.out hx217_2
        replace p217 := eq_true p217
        replace q217 := eq_true q217
        refine start_ (n := 14) (S := fun w' => w'.cell? (ad215.add ((x5_1).toNat * 3)) = some (.int .i64 ((rd_T97 l0 x5_1).f0)) ∧ w'.cell? ⟨(ad215.add ((x5_1).toNat * 3)).block, (ad215.add ((x5_1).toNat * 3)).off + 1, none⟩ = some (.int .i64 ((rd_T97 l0 x5_1).f1)) ∧ w'.cell? ⟨(ad215.add ((x5_1).toNat * 3)).block, (ad215.add ((x5_1).toNat * 3)).off + 2, none⟩ = some (.int .i64 ((rd_T97 l0 x5_1).f2)) ∧ w'.cell? (ad215.add (((ji6)).toNat * 3)) = some (.int .i64 ((rd_T97 l0 (ji6)).f0)) ∧ w'.cell? ⟨(ad215.add (((ji6)).toNat * 3)).block, (ad215.add (((ji6)).toNat * 3)).off + 1, none⟩ = some (.int .i64 ((rd_T97 l0 (ji6)).f1)) ∧ w'.cell? ⟨(ad215.add (((ji6)).toNat * 3)).block, (ad215.add (((ji6)).toNat * 3)).off + 2, none⟩ = some (.int .i64 ((rd_T97 l0 (ji6)).f2))) (ds := []) #[false, false, false, false, false, false, false, false, false, false, false, false, false, false] (by kernel_rfl) rfl rfl ⟨(tc HB.out hw215_0 :), (tc HB.out hw215_1 :), (tc HB.out hw215_2 :), (tc HB.out hw217_0 :), (tc HB.out hw217_1 :), (tc HB.out hw217_2 :)⟩ (fun hHeld => ?_); refine with_tabW impl_rising_75_v76.tab4 impl_rising_75_v76.bits4 (fun HT_ HW_ => ?_)
        generalize wr.drew = w14 at HB hx215_0 hx215_1 hx215_2 hx217_0 hx217_1 hx217_2 hHeld ⊢
        refine pa_ 0 (some 12) (any_of HT_.out (by kernel_rfl)) ?_
        refine pa_ 1 (some 13) (any_of HT_.out (by kernel_rfl)) ?_
        refine pa_ 2 (some 14) (any_of HT_.out (by kernel_rfl)) ?_
        refine pa_ 3 (some 15) (any_of HT_.out (by kernel_rfl)) ?_
        refine pa_ 6 (some 18) (any_of HT_.out (by kernel_rfl)) ?_
        refine pa_ 7 (some 19) (any_of HT_.out (by kernel_rfl)) ?_
        refine pa_ 8 (some 20) (any_of HT_.out (by kernel_rfl)) ?_
        refine pa_ 9 (some 21) (any_of HT_.out (by kernel_rfl)) ?_
        refine pa_ 10 (some 22) (any_of HT_.out (by kernel_rfl)) ?_
        refine take_ (i := 4) (N := some 16) (v := ?_) (a' := ?_) #[true, true, true, true, true, false, true, true, true, true, true, false, false, false] rfl rfl (take_ofW HT_.out HW_.out (by kernel_rfl)) (fun _ _ _ h => h) (Or.inl ⟨by rfl, ?_⟩) hHeld ?_ ?_
        rotate_left
        ·rintro w' ⟨s0, s1, s2, s3, s4, s5⟩
         go_simp
         with_reducible rfl
        rotate_left
        ·simp only [Act.put, List.setIfInBounds_toArray, List.set_cons_zero, List.set_cons_succ, i64_w, i32_w]
         rfl
        refine take_ (i := 11) (N := some 23) (v := ?_) (a' := ?_) #[true, true, true, true, true, false, true, true, true, true, true, true, false, false] rfl rfl (take_ofW HT_.out HW_.out (by kernel_rfl)) (fun _ _ _ h => h) (Or.inl ⟨by rfl, ?_⟩) hHeld ?_ ?_
        rotate_left
        ·rintro w' ⟨s0, s1, s2, s3, s4, s5⟩
         go_simp
         with_reducible rfl
        rotate_left
        ·simp only [Act.put, List.setIfInBounds_toArray, List.set_cons_zero, List.set_cons_succ, i64_w, i32_w]
         rfl
        refine one_ (i := 5) (N := some 17) #[true, true, true, true, true, true, true, true, true, true, true, true, false, false] rfl rfl (one_of HT_.out (by kernel_rfl)) (by decide) (fun K hK => ?_)
        refine goesW_ Try.func76 (by kernel_rfl) rfl #[.agg #[.int .i64 ((rd_T97 l0 x5_1).f0), .int .i64 ((rd_T97 l0 x5_1).f1), .int .i64 ((rd_T97 l0 x5_1).f2)]] #[] #[.agg #[.int .i64 ((rd_T97 l0 x5_1).f0), .int .i64 ((rd_T97 l0 x5_1).f1), .int .i64 ((rd_T97 l0 x5_1).f2)]] (by rfl) rfl rfl (by first | rfl | (go_simp; done)) (by (try simp only [List.map_toArray, List.map_cons, List.map_nil]); first | done | rfl | (simp only [List.length_drop, List.length_take]; rfl)) rfl ?_
        with_reducible refine (impl_PlanOk_2.calls ((rd_T97 l0 x5_1).f0) ((rd_T97 l0 x5_1).f1) ((rd_T97 l0 x5_1).f2) t216 _ A5.out).mono ?_
        rintro e w15 ⟨rfl, hb⟩
        refine ⟨_, rfl, ?_⟩
        have n0_ := Aside0.mk (below_step (by repeat (first | (with_reducible first | exact HB.out | apply ba | apply bn | apply bd) | exact HB.out)) hb)
        clear HB
        have HB := n0_
        clear n0_
        (try clear hb)
        (try clear hb2)
        (try clear hk)
        (try clear hi)
        refine hK.out _ _ ⟨(tc HB.out hw215_0 :), (tc HB.out hw215_1 :), (tc HB.out hw215_2 :), (tc HB.out hw217_0 :), (tc HB.out hw217_1 :), (tc HB.out hw217_2 :)⟩ (fun hHeld => ?_)
        clear hK K
        refine norm_ (a' := ?_) ?_ ?_
        rotate_left
        ·show Act.put _ (some 17) _ = _
         simp only [Act.put, List.setIfInBounds_toArray, List.set_cons_zero, List.set_cons_succ, i64_w, i32_w]
         rfl
        refine one_ (i := 12) (N := some 24) #[true, true, true, true, true, true, true, true, true, true, true, true, true, false] rfl rfl (one_of HT_.out (by kernel_rfl)) (by decide) (fun K hK => ?_)
        refine goesW_ Try.func76 (by kernel_rfl) rfl #[.agg #[.int .i64 ((rd_T97 l0 (ji6)).f0), .int .i64 ((rd_T97 l0 (ji6)).f1), .int .i64 ((rd_T97 l0 (ji6)).f2)]] #[] #[.agg #[.int .i64 ((rd_T97 l0 (ji6)).f0), .int .i64 ((rd_T97 l0 (ji6)).f1), .int .i64 ((rd_T97 l0 (ji6)).f2)]] (by rfl) rfl rfl (by first | rfl | (go_simp; done)) (by (try simp only [List.map_toArray, List.map_cons, List.map_nil]); first | done | (simp only [hji6]; rfl) | rfl | (simp only [List.length_drop, List.length_take]; rfl)) rfl ?_
        with_reducible refine (impl_PlanOk_2.calls ((rd_T97 l0 (ji6)).f0) ((rd_T97 l0 (ji6)).f1) ((rd_T97 l0 (ji6)).f2) t218 _ A9.out).mono ?_
        rintro e w16 ⟨rfl, hb⟩
        refine ⟨_, rfl, ?_⟩
        have n0_ := Aside0.mk (below_step (by repeat (first | (with_reducible first | exact HB.out | apply ba | apply bn | apply bd) | exact HB.out)) hb)
        clear HB
        have HB := n0_
        clear n0_
        (try clear hb)
        (try clear hb2)
        (try clear hk)
        (try clear hi)
        refine hK.out _ _ ⟨(tc HB.out hw215_0 :), (tc HB.out hw215_1 :), (tc HB.out hw215_2 :), (tc HB.out hw217_0 :), (tc HB.out hw217_1 :), (tc HB.out hw217_2 :)⟩ (fun hHeld => ?_)
        clear hK K
        refine norm_ (a' := ?_) ?_ ?_
        rotate_left
        ·show Act.put _ (some 24) _ = _
         simp only [Act.put, List.setIfInBounds_toArray, List.set_cons_zero, List.set_cons_succ, i64_w, i32_w]
         rfl
        refine pa_ 13 (some 25) (any_of HT_.out (by kernel_rfl)) ?_
        refine done_ (done_of HT_.out (by kernel_rfl)) ?_
        try go_wp2
        go_roundg k1
        case measure => have := HK1.out; omega
        case rel => exact ⟨(wrap64 (x5_1 + 1)), (by first | rfl | (simp; done) | (simp [*]; done)), H', ⟨by have := HK1.out; omega⟩, ⟨by repeat (first | (with_reducible first | exact HB.out | apply ba | apply bn | apply bd) | exact HB.out)⟩⟩
      ·rw [if_neg c8] at H
       exact absurd H (by simp)
     ·rw [if_neg c7] at H
      exact absurd H (by simp)
    ·rw [if_neg c4] at H
     exact absurd H (by simp)
   ·rw [if_neg c3] at H
    have c3b0 : decide (x5_1 < (l0.length : Int)) = false := decide_eq_false c3
    clear c3
    obtain rfl := Option.some.inj H
    go_wp2
    go_ret
    exact ⟨by first | rfl | (simp [errW_none, errW_some] <;> rfl) | (simp [*, errW_none, errW_some] <;> rfl), by repeat (first | (with_reducible first | exact HB.out | apply ba | apply bn | apply bd) | exact HB.out)⟩

/-! ### slices_IndexFunc_117_v71: function 117 -/
def slices_IndexFunc_117_v71.l0 : Nat → List (S97) → Int → Int → Option (Int)
 | 0, _, _, _ => none
 | k + 1, x0, x7, x8 => if x8 < x7 then (if 0 ≤ x8 then (if x8 < (x0.length : Int) then ((impl_PlanOk_1.f ((rd_T97 x0 x8).f0) ((rd_T97 x0 x8).f1) ((rd_T97 x0 x8).f2)).bind fun t220 => (if t220 = true then (some x8) else (slices_IndexFunc_117_v71.l0 k x0 x7 (wrap64 (x8 + 1))))) else (none)) else (none)) else (some (-1))
def slices_IndexFunc_117_v71.f (k : Nat) (l0 : List (S97))  : Option (Int) := slices_IndexFunc_117_v71.l0 k l0 (l0.length : Int) 0
theorem slices_IndexFunc_117_v71.mono_l : ∀ k, (∀ y0 y1 y2, LeO (slices_IndexFunc_117_v71.l0 k y0 y1 y2) (slices_IndexFunc_117_v71.l0 (k + 1) y0 y1 y2))
 | 0 => fun _ _ _ r h => by simp [slices_IndexFunc_117_v71.l0] at h
 | k + 1 => by
  have ih0 := slices_IndexFunc_117_v71.mono_l k
  ·intro y0 y1 y2
   unfold slices_IndexFunc_117_v71.l0
   repeat' first
   | (with_reducible exact ih0 _ _ _)
   | (with_reducible exact LeO.refl _)
   | (with_reducible exact LeO.none _)
   | (with_reducible refine LeO.ite ?_ ?_)
   | (with_reducible refine LeO.bind ?_ (fun _ => ?_))
   | exact ih0 _ _ _
   | exact LeO.none _
   | refine LeO.ite ?_ ?_
   | refine LeO.bind ?_ (fun _ => ?_)
theorem slices_IndexFunc_117_v71.mono : ∀ a0 k, LeO (slices_IndexFunc_117_v71.f k a0) (slices_IndexFunc_117_v71.f (k + 1) a0) := by
 intro a0 k
 have ih0 := slices_IndexFunc_117_v71.mono_l k
 unfold slices_IndexFunc_117_v71.f
 repeat' first
   | (with_reducible exact ih0 _ _ _)
   | (with_reducible exact LeO.refl _)
   | (with_reducible exact LeO.none _)
   | (with_reducible refine LeO.ite ?_ ?_)
   | (with_reducible refine LeO.bind ?_ (fun _ => ?_))
   | exact ih0 _ _ _
   | exact LeO.none _
   | refine LeO.ite ?_ ?_
   | refine LeO.bind ?_ (fun _ => ?_)
set_option maxHeartbeats 8000000 in
set_option maxRecDepth 100000 in
theorem slices_IndexFunc_117_v71.calls (k : Nat) (A0 : Option Addr) (c0 : Nat) (l0 : List (S97))  (r : Int) (w : World) (hr0 : Kd.C k97 w A0 l0.length l0) (hc0 : l0.length ≤ c0) (h : slices_IndexFunc_117_v71.f k l0 = some r) :
  Calls Try.prog 117 #[.slice A0 l0.length c0, .func (.func 71) #[] #[]] w fun e w' => e = .returned (.int .i64 r) ∧ Below w.heap.size w w' := by
 have hu97 := Try.underlying97
 have HR0 := Aside0.mk hr0
 have HC0 := Aside0.mk hc0
 clear hr0 hc0
 have HB := Aside0.mk (Below.refl w.heap.size w)
 have H : (slices_IndexFunc_117_v71.l0 k l0 (l0.length : Int) 0) = some r := h
 clear h
 have H' := Aside0.mk H
 clear H
 go_enter Try.func117, Try.ntmps117
 go_wp2
 go_loopg [8] k (fun kq v8 w' => ∃ (x8_1 : Int), v8 = .int .i64 x8_1 ∧ Aside0 (slices_IndexFunc_117_v71.l0 kq l0 (l0.length : Int) x8_1 = some r) ∧ Aside0 (kq ≤ k) ∧ Aside0 (Below w.heap.size w w'))
 case atStart => exact ⟨(0), (by first | rfl | (simp; done) | (simp [*]; done)), H', ⟨Nat.le_refl _⟩, ⟨by repeat (first | (with_reducible first | exact HB.out | apply ba | apply bn | apply bd) | exact HB.out)⟩⟩
 case round =>
  clear H'
  try clear p2
  obtain ⟨x8_1, rfl, HA, HK1, HB⟩ := hrel
  cases gk with
  | zero => exact absurd HA.out (by simp [slices_IndexFunc_117_v71.l0])
  | succ k1 =>
   have H := HA.out
   clear HA
   simp only [slices_IndexFunc_117_v71.l0] at H
   by_cases c3 : x8_1 < (l0.length : Int)
   ·rw [if_pos c3] at H
    have c3b0 : decide (x8_1 < (l0.length : Int)) = true := decide_eq_true c3
    clear c3
    by_cases c4 : 0 ≤ x8_1
    ·rw [if_pos c4] at H
     have c4b0 : decide (0 ≤ x8_1) = true := decide_eq_true c4
     clear c4
     by_cases c5 : x8_1 < (l0.length : Int)
     ·rw [if_pos c5] at H
      have c5b0 : decide (x8_1 < (l0.length : Int)) = true := decide_eq_true c5
      clear c5
      replace H := Option.bind_eq_some_iff.mp H
      obtain ⟨t220, A60, H⟩ := H
      replace H : (if t220 = true then (some x8_1) else (slices_IndexFunc_117_v71.l0 k1 l0 (l0.length : Int) (wrap64 (x8_1 + 1)))) = some r := H
      have A6 := Aside0.mk A60
      clear A60
      by_cases c7 : t220 = true
      ·subst c7
       have H1 : (some x8_1) = some r := by rw [if_pos rfl] at H; exact H
       clear H
       have H := H1
       clear H1
       obtain rfl := Option.some.inj H
       have p219 : 0 ≤ (x8_1 : Int) := of_decide_eq_true (by first | (with_reducible assumption) | assumption)
       have q219 : x8_1 < (l0.length : Int) := of_decide_eq_true (by first | (with_reducible assumption) | assumption)
       obtain ⟨ad219, e219, hx219_0, hx219_1, hx219_2⟩ := at_T97 HR0.out x8_1 p219 q219
       cases e219
       replace hx219_0 := tc HB.out hx219_0
       replace hx219_1 := tc HB.out hx219_1
       replace hx219_2 := tc HB.out hx219_2
       replace p219 := eq_true p219
       replace q219 := eq_true q219
       go_wp2_with (first | ((with_reducible refine gate_calleeV (p := 11) rfl ?_); refine goesV_ (some 16) rfl rfl Try.func71 (by kernel_rfl) rfl #[.agg #[.int .i64 ((rd_T97 l0 x8_1).f0), .int .i64 ((rd_T97 l0 x8_1).f1), .int .i64 ((rd_T97 l0 x8_1).f2)]] #[] #[.agg #[.int .i64 ((rd_T97 l0 x8_1).f0), .int .i64 ((rd_T97 l0 x8_1).f1), .int .i64 ((rd_T97 l0 x8_1).f2)]] rfl (by first | rfl | (go_simp; done)) (by (try simp only [List.map_toArray, List.map_cons, List.map_nil]); first | done | rfl | (simp only [List.length_drop, List.length_take]; rfl)) rfl ?_; (with_reducible refine (impl_PlanOk_1.calls ((rd_T97 l0 x8_1).f0) ((rd_T97 l0 x8_1).f1) ((rd_T97 l0 x8_1).f2) true _ A6.out).mono ?_); rintro e w8 ⟨rfl, hb⟩; refine ⟨_, rfl, ?_⟩; have n0_ := Aside0.mk (below_step (by repeat (first | (with_reducible first | exact HB.out | apply ba | apply bn | apply bd) | exact HB.out)) hb); clear HB; have HB := n0_; clear n0_; (try clear hb); (try clear hb2); (try clear hk); (try clear hi)))
       go_ret
       exact ⟨by first | rfl | (simp [errW_none, errW_some] <;> rfl) | (simp [*, errW_none, errW_some] <;> rfl), by repeat (first | (with_reducible first | exact HB.out | apply ba | apply bn | apply bd) | exact HB.out)⟩
      ·replace c7 := Bool.eq_false_iff.mpr c7
       subst c7
       have H1 : (slices_IndexFunc_117_v71.l0 k1 l0 (l0.length : Int) (wrap64 (x8_1 + 1))) = some r := by rw [if_neg (show ¬ (false = true) by decide)] at H; exact H
       clear H
       have H := H1
       clear H1
       have H' := Aside0.mk H
       clear H
       have p219 : 0 ≤ (x8_1 : Int) := of_decide_eq_true (by first | (with_reducible assumption) | assumption)
       have q219 : x8_1 < (l0.length : Int) := of_decide_eq_true (by first | (with_reducible assumption) | assumption)
       obtain ⟨ad219, e219, hx219_0, hx219_1, hx219_2⟩ := at_T97 HR0.out x8_1 p219 q219
       cases e219
       replace hx219_0 := tc HB.out hx219_0
       replace hx219_1 := tc HB.out hx219_1
       replace hx219_2 := tc HB.out hx219_2
       replace p219 := eq_true p219
       replace q219 := eq_true q219
       go_wp2_with (first | ((with_reducible refine gate_calleeV (p := 11) rfl ?_); refine goesV_ (some 16) rfl rfl Try.func71 (by kernel_rfl) rfl #[.agg #[.int .i64 ((rd_T97 l0 x8_1).f0), .int .i64 ((rd_T97 l0 x8_1).f1), .int .i64 ((rd_T97 l0 x8_1).f2)]] #[] #[.agg #[.int .i64 ((rd_T97 l0 x8_1).f0), .int .i64 ((rd_T97 l0 x8_1).f1), .int .i64 ((rd_T97 l0 x8_1).f2)]] rfl (by first | rfl | (go_simp; done)) (by (try simp only [List.map_toArray, List.map_cons, List.map_nil]); first | done | rfl | (simp only [List.length_drop, List.length_take]; rfl)) rfl ?_; (with_reducible refine (impl_PlanOk_1.calls ((rd_T97 l0 x8_1).f0) ((rd_T97 l0 x8_1).f1) ((rd_T97 l0 x8_1).f2) false _ A6.out).mono ?_); rintro e w9 ⟨rfl, hb⟩; refine ⟨_, rfl, ?_⟩; have n0_ := Aside0.mk (below_step (by repeat (first | (with_reducible first | exact HB.out | apply ba | apply bn | apply bd) | exact HB.out)) hb); clear HB; have HB := n0_; clear n0_; (try clear hb); (try clear hb2); (try clear hk); (try clear hi)))
       go_roundg k1
       case measure => have := HK1.out; omega
       case rel => exact ⟨(wrap64 (x8_1 + 1)), (by first | rfl | (simp; done) | (simp [*]; done)), H', ⟨by have := HK1.out; omega⟩, ⟨by repeat (first | (with_reducible first | exact HB.out | apply ba | apply bn | apply bd) | exact HB.out)⟩⟩
     ·rw [if_neg c5] at H
      exact absurd H (by simp)
    ·rw [if_neg c4] at H
     exact absurd H (by simp)
   ·rw [if_neg c3] at H
    have c3b0 : decide (x8_1 < (l0.length : Int)) = false := decide_eq_false c3
    clear c3
    obtain rfl := Option.some.inj H
    go_wp2
    go_ret
    exact ⟨by first | rfl | (simp [errW_none, errW_some] <;> rfl) | (simp [*, errW_none, errW_some] <;> rfl), by repeat (first | (with_reducible first | exact HB.out | apply ba | apply bn | apply bd) | exact HB.out)⟩

/-! ### slices_ContainsFunc_77_v71: function 77 -/
def slices_ContainsFunc_77_v71.f (k : Nat) (l0 : List (S97))  : Option (Bool) := (slices_IndexFunc_117_v71.f k l0).bind fun t221 => (some (decide (t221 ≥ 0)))
theorem slices_ContainsFunc_77_v71.mono : ∀ a0 k, LeO (slices_ContainsFunc_77_v71.f k a0) (slices_ContainsFunc_77_v71.f (k + 1) a0) := by
 intro a0 k
 unfold slices_ContainsFunc_77_v71.f
 repeat' first
   | (with_reducible exact slices_IndexFunc_117_v71.mono _ _)
   | (with_reducible exact LeO.refl _)
   | (with_reducible exact LeO.none _)
   | (with_reducible refine LeO.ite ?_ ?_)
   | (with_reducible refine LeO.bind ?_ (fun _ => ?_))
   | exact slices_IndexFunc_117_v71.mono _ _
   | exact LeO.none _
   | refine LeO.ite ?_ ?_
   | refine LeO.bind ?_ (fun _ => ?_)
set_option maxHeartbeats 8000000 in
set_option maxRecDepth 100000 in
theorem slices_ContainsFunc_77_v71.calls (k : Nat) (A0 : Option Addr) (c0 : Nat) (l0 : List (S97))  (r : Bool) (w : World) (hr0 : Kd.C k97 w A0 l0.length l0) (hc0 : l0.length ≤ c0) (h : slices_ContainsFunc_77_v71.f k l0 = some r) :
  Calls Try.prog 77 #[.slice A0 l0.length c0, .func (.func 71) #[] #[]] w fun e w' => e = .returned (.bool r) ∧ Below w.heap.size w w' := by
 have HR0 := Aside0.mk hr0
 have HC0 := Aside0.mk hc0
 clear hr0 hc0
 have HB := Aside0.mk (Below.refl w.heap.size w)
 have H : ((slices_IndexFunc_117_v71.f k l0).bind fun t221 => (some (decide (t221 ≥ 0)))) = some r := h
 clear h
 replace H := Option.bind_eq_some_iff.mp H
 obtain ⟨t221, A30, H⟩ := H
 replace H : (some (decide (t221 ≥ 0))) = some r := H
 have A3 := Aside0.mk A30
 clear A30
 obtain rfl := Option.some.inj H
 go_enter Try.func77, Try.ntmps77
 go_wp2_with (first | ((with_reducible refine gate_callee (f := 117) rfl ?_); refine goesL_ (some 7) rfl rfl Try.func117 (by kernel_rfl) rfl #[.slice A0 l0.length c0, .func (.func 71) #[] #[]] rfl (by (try simp only [List.map_toArray, List.map_cons, List.map_nil]); first | done | rfl | (simp only [List.length_drop, List.length_take]; rfl)) ?_; (with_reducible refine (slices_IndexFunc_117_v71.calls k _ _ l0  t221 _ ?side1 ?side2 A3.out).mono ?_); (case side1 => repeat (first | exact HR0.out | (with_reducible refine Kd.C_alloc ?_ _) | (with_reducible refine Kd.C_drewN ?_ _) | (with_reducible refine Kd.C_drew ?_))); (case side2 => exact HC0.out); rintro e w4 ⟨rfl, hb⟩; refine ⟨_, rfl, ?_⟩; have n0_ := Aside0.mk (below_step (by repeat (first | (with_reducible first | exact HB.out | apply ba | apply bn | apply bd) | exact HB.out)) hb); clear HB; have HB := n0_; clear n0_; (try clear hb); (try clear hb2); (try clear hk); (try clear hi)))
 go_ret
 exact ⟨by first | rfl | (simp [errW_none, errW_some] <;> rfl) | (simp [*, errW_none, errW_some] <;> rfl), by repeat (first | (with_reducible first | exact HB.out | apply ba | apply bn | apply bd) | exact HB.out)⟩

/-! ### impl_PlanOk: function 30 -/
def impl_PlanOk.j0 : Nat → Bool → Int → Int → Int → List (S123) → List (S97) → Int → Int → Option (Bool)
 | 0, _, _, _, _, _, _, _, _ => none
 | k + 1, x4, x223000, x223001, x223002, x223003, x223004, x223005, x223006 => (impl_in.f x223000 0 60).bind fun t225 => (if t225 = true then ((impl_TableOk.f k x223001 x223002 x223003).bind fun t226 => (if t226 = true then (if x4 = true then ((impl_in.f x223005 1 31).bind fun t227 => (if t227 = true then ((impl_in.f x223006 0 31).bind fun t228 => (some t228)) else (some false))) else (some false)) else (some false))) else (some false))
def impl_PlanOk.f (k : Nat) (a0_0 : Int) (a0_1 : Int) (a0_2 : Int) (l0_3 : List (S123)) (l0_4 : List (S97)) (a0_5 : Int) (a0_6 : Int) : Option (Bool) := if (l0_4.length : Int) ≤ 4 then ((impl_rising_75_v76.f k l0_4).bind fun t223 => (if t223 = true then ((slices_ContainsFunc_77_v71.f k l0_4).bind fun t224 => (impl_PlanOk.j0 k (!t224) a0_0 a0_1 a0_2 l0_3 l0_4 a0_5 a0_6)) else (impl_PlanOk.j0 k false a0_0 a0_1 a0_2 l0_3 l0_4 a0_5 a0_6))) else (impl_PlanOk.j0 k false a0_0 a0_1 a0_2 l0_3 l0_4 a0_5 a0_6)
theorem impl_PlanOk.mono_l : ∀ k, (∀ y0 y1 y2 y3 y4 y5 y6 y7, LeO (impl_PlanOk.j0 k y0 y1 y2 y3 y4 y5 y6 y7) (impl_PlanOk.j0 (k + 1) y0 y1 y2 y3 y4 y5 y6 y7))
 | 0 => fun _ _ _ _ _ _ _ _ r h => by simp [impl_PlanOk.j0] at h
 | k + 1 => by
  have ih0 := impl_PlanOk.mono_l k
  ·intro y0 y1 y2 y3 y4 y5 y6 y7
   unfold impl_PlanOk.j0
   repeat' first
   | (with_reducible exact ih0 _ _ _ _ _ _ _ _)
   | (with_reducible exact impl_TableOk.mono _ _ _ _)
   | (with_reducible exact impl_rising_75_v76.mono _ _)
   | (with_reducible exact slices_ContainsFunc_77_v71.mono _ _)
   | (with_reducible exact LeO.refl _)
   | (with_reducible exact LeO.none _)
   | (with_reducible refine LeO.ite ?_ ?_)
   | (with_reducible refine LeO.bind ?_ (fun _ => ?_))
   | exact ih0 _ _ _ _ _ _ _ _
   | exact impl_TableOk.mono _ _ _ _
   | exact impl_rising_75_v76.mono _ _
   | exact slices_ContainsFunc_77_v71.mono _ _
   | exact LeO.none _
   | refine LeO.ite ?_ ?_
   | refine LeO.bind ?_ (fun _ => ?_)
theorem impl_PlanOk.mono : ∀ a0 a1 a2 a3 a4 a5 a6 k, LeO (impl_PlanOk.f k a0 a1 a2 a3 a4 a5 a6) (impl_PlanOk.f (k + 1) a0 a1 a2 a3 a4 a5 a6) := by
 intro a0 a1 a2 a3 a4 a5 a6 k
 have ih0 := impl_PlanOk.mono_l k
 unfold impl_PlanOk.f
 repeat' first
   | (with_reducible exact ih0 _ _ _ _ _ _ _ _)
   | (with_reducible exact impl_TableOk.mono _ _ _ _)
   | (with_reducible exact impl_rising_75_v76.mono _ _)
   | (with_reducible exact slices_ContainsFunc_77_v71.mono _ _)
   | (with_reducible exact LeO.refl _)
   | (with_reducible exact LeO.none _)
   | (with_reducible refine LeO.ite ?_ ?_)
   | (with_reducible refine LeO.bind ?_ (fun _ => ?_))
   | exact ih0 _ _ _ _ _ _ _ _
   | exact impl_TableOk.mono _ _ _ _
   | exact impl_rising_75_v76.mono _ _
   | exact slices_ContainsFunc_77_v71.mono _ _
   | exact LeO.none _
   | refine LeO.ite ?_ ?_
   | refine LeO.bind ?_ (fun _ => ?_)
set_option maxHeartbeats 8000000 in
set_option maxRecDepth 100000 in
theorem impl_PlanOk.calls (k : Nat) (a0_0 : Int) (a0_1 : Int) (a0_2 : Int) (A0_3 : Option Addr) (c0_3 : Nat) (l0_3 : List (S123)) (A0_4 : Option Addr) (c0_4 : Nat) (l0_4 : List (S97)) (a0_5 : Int) (a0_6 : Int) (r : Bool) (w : World) (hr0_3 : Kd.C k123 w A0_3 l0_3.length l0_3) (hc0_3 : l0_3.length ≤ c0_3) (hr0_4 : Kd.C k97 w A0_4 l0_4.length l0_4) (hc0_4 : l0_4.length ≤ c0_4) (h : impl_PlanOk.f k a0_0 a0_1 a0_2 l0_3 l0_4 a0_5 a0_6 = some r) :
  Calls Try.prog 30 #[.agg #[.int .i64 a0_0, .int .i64 a0_1, .int .i64 a0_2, .slice A0_3 l0_3.length c0_3, .slice A0_4 l0_4.length c0_4, .int .i64 a0_5, .int .i64 a0_6]] w fun e w' => e = .returned (.bool r) ∧ Below w.heap.size w w' := by
 have hu44 := Try.underlying44
 have hu41 := Try.underlying41
 have HR0_3 := Aside0.mk hr0_3
 have HC0_3 := Aside0.mk hc0_3
 clear hr0_3 hc0_3
 have HR0_4 := Aside0.mk hr0_4
 have HC0_4 := Aside0.mk hc0_4
 clear hr0_4 hc0_4
 have HB := Aside0.mk (Below.refl w.heap.size w)
 have H : (if (l0_4.length : Int) ≤ 4 then ((impl_rising_75_v76.f k l0_4).bind fun t223 => (if t223 = true then ((slices_ContainsFunc_77_v71.f k l0_4).bind fun t224 => (impl_PlanOk.j0 k (!t224) a0_0 a0_1 a0_2 l0_3 l0_4 a0_5 a0_6)) else (impl_PlanOk.j0 k false a0_0 a0_1 a0_2 l0_3 l0_4 a0_5 a0_6))) else (impl_PlanOk.j0 k false a0_0 a0_1 a0_2 l0_3 l0_4 a0_5 a0_6)) = some r := h
 clear h
 have HC2 := Aside0.mk H
 clear H
 go_enter Try.func30, Try.ntmps30
 go_upto_region 2 with (first | ((with_reducible refine gate_dst (N := 1) rfl ?_); refine box_event ?hg (N := 1) ?hd (cs := #[.int .i64 a0_0, .int .i64 a0_1, .int .i64 a0_2, .slice A0_3 l0_3.length c0_3, .slice A0_4 l0_4.length c0_4, .int .i64 a0_5, .int .i64 a0_6]) (t := 44) ?hr ?_; (case hd => rfl); (case hg => rfl); (case hr => first | (go_simp; done) | (go_simp; rfl)); intro gb222 hg w3 hbox hb; have n0_ := Aside0.mk (below_step (by repeat (first | (with_reducible first | exact HB.out | apply ba | apply bn | apply bd) | exact HB.out)) hb); have n1_ := Aside0.mk (hbox); have n2_ := Aside0.mk ((by rw [hg]; exact (below_size (by repeat (first | (with_reducible first | exact HB.out | apply ba | apply bn | apply bd) | exact HB.out))) : w.heap.size ≤ gb222)); have n3_ := Aside0.mk ((by rw [hg]; exact (below_size (by repeat (first | (with_reducible first | exact HB.out | apply ba | apply bn | apply bd) | exact HB.out))) : w.heap.size ≤ gb222)); clear HB; have HB := n0_; have BK222 := n1_; have GW222 := n2_; have GE222 := n3_; clear n0_ n1_ n2_ n3_; clear hb hbox hg))
 (try simp only [Act.put, List.setIfInBounds_toArray, List.set_cons_zero, List.set_cons_succ])
 go_cut [4] (fun v4 wc => ∃ (kq : Nat) (x4_1 : Bool), v4 = .bool x4_1 ∧ Aside0 (impl_PlanOk.j0 kq x4_1 a0_0 a0_1 a0_2 l0_3 l0_4 a0_5 a0_6 = some r) ∧ Aside0 (kq ≤ k) ∧ Aside0 (wc.heap[gb222]? = some (.cells #[.int .i64 a0_0, .int .i64 a0_1, .int .i64 a0_2, (.slice A0_3 l0_3.length c0_3), (.slice A0_4 l0_4.length c0_4), .int .i64 a0_5, .int .i64 a0_6] 44 (0, 0))) ∧ Aside0 (Below w.heap.size w wc))
 case first =>
  have H := HC2.out
  clear HC2
  by_cases c4 : (l0_4.length : Int) ≤ 4
  ·rw [if_pos c4] at H
   have c4b0 : decide ((l0_4.length : Int) ≤ 4) = true := decide_eq_true c4
   have c4b1 : decide (l0_4.length ≤ 4) = true := decide_eq_true (by omega)
   clear c4
   (first | rw [c4b0] | (simp only [i64_w, i32_w]; rw [c4b0]) | skip)
   replace H := Option.bind_eq_some_iff.mp H
   obtain ⟨t223, A50, H⟩ := H
   replace H : (if t223 = true then ((slices_ContainsFunc_77_v71.f k l0_4).bind fun t224 => (impl_PlanOk.j0 k (!t224) a0_0 a0_1 a0_2 l0_3 l0_4 a0_5 a0_6)) else (impl_PlanOk.j0 k false a0_0 a0_1 a0_2 l0_3 l0_4 a0_5 a0_6)) = some r := H
   have A5 := Aside0.mk A50
   clear A50
   by_cases c6 : t223 = true
   ·subst c6
    have H1 : ((slices_ContainsFunc_77_v71.f k l0_4).bind fun t224 => (impl_PlanOk.j0 k (!t224) a0_0 a0_1 a0_2 l0_3 l0_4 a0_5 a0_6)) = some r := by rw [if_pos rfl] at H; exact H
    clear H
    have H := H1
    clear H1
    replace H := Option.bind_eq_some_iff.mp H
    obtain ⟨t224, A70, H⟩ := H
    replace H : (impl_PlanOk.j0 k (!t224) a0_0 a0_1 a0_2 l0_3 l0_4 a0_5 a0_6) = some r := H
    have A7 := Aside0.mk A70
    clear A70
    have H' := Aside0.mk H
    clear H
    have hcz8_0 : w3.cell? ⟨gb222, 0, none⟩ = some (.int .i64 a0_0) := cl BK222.out 0 rfl
    have hcz8_1 : w3.cell? ⟨gb222, 1, none⟩ = some (.int .i64 a0_1) := cl BK222.out 1 rfl
    have hcz8_2 : w3.cell? ⟨gb222, 2, none⟩ = some (.int .i64 a0_2) := cl BK222.out 2 rfl
    have hcz8_3 : w3.cell? ⟨gb222, 3, none⟩ = some (.slice A0_3 l0_3.length c0_3) := cl BK222.out 3 rfl
    have hcz8_4 : w3.cell? ⟨gb222, 4, none⟩ = some (.slice A0_4 l0_4.length c0_4) := cl BK222.out 4 rfl
    have hcz8_5 : w3.cell? ⟨gb222, 5, none⟩ = some (.int .i64 a0_5) := cl BK222.out 5 rfl
    have hcz8_6 : w3.cell? ⟨gb222, 6, none⟩ = some (.int .i64 a0_6) := cl BK222.out 6 rfl
    have hfz8_0 := fz BK222.out 0
    have hfz8_1 := fz BK222.out 1
    have hfz8_2 := fz BK222.out 2
    have hfz8_3 := fz BK222.out 3
    have hfz8_4 := fz BK222.out 4
    have hfz8_5 := fz BK222.out 5
    have hfz8_6 := fz BK222.out 6
    go_wp2_with (first | (go_at_call 75; (with_reducible refine (impl_rising_75_v76.calls k _ _ l0_4  true _ ?side1 ?side2 A5.out).mono ?_); (case side1 => repeat (first | exact (Kd.C_below HR0_4.out HB.out) | (with_reducible refine Kd.C_alloc ?_ _) | (with_reducible refine Kd.C_drewN ?_ _) | (with_reducible refine Kd.C_drew ?_))); (case side2 => exact HC0_4.out); rintro e w9 ⟨rfl, hb⟩; have n0_ := Aside0.mk (blk_below (g := gb222) (o := .cells #[.int .i64 a0_0, .int .i64 a0_1, .int .i64 a0_2, .slice A0_3 l0_3.length c0_3, .slice A0_4 l0_4.length c0_4, .int .i64 a0_5, .int .i64 a0_6] 44 (0, 0)) (by (with_reducible repeat (first | refine blk_drewN ?_ _ | refine blk_drew ?_ | refine blk_alloc ?_ _)); exact BK222.out) hb); have n1_ := Aside0.mk (below_step (by repeat (first | (with_reducible first | exact HB.out | apply ba | apply bn | apply bd | refine bt ?_ GE222.out) | exact HB.out)) hb); clear BK222; clear HB; have BK222 := n0_; have HB := n1_; clear n0_ n1_; (try clear hb); (try clear hb2); (try clear hk); (try clear hi); have hcz10_0 : w9.cell? ⟨gb222, 0, none⟩ = some (.int .i64 a0_0) := cl BK222.out 0 rfl; have hcz10_1 : w9.cell? ⟨gb222, 1, none⟩ = some (.int .i64 a0_1) := cl BK222.out 1 rfl; have hcz10_2 : w9.cell? ⟨gb222, 2, none⟩ = some (.int .i64 a0_2) := cl BK222.out 2 rfl; have hcz10_3 : w9.cell? ⟨gb222, 3, none⟩ = some (.slice A0_3 l0_3.length c0_3) := cl BK222.out 3 rfl; have hcz10_4 : w9.cell? ⟨gb222, 4, none⟩ = some (.slice A0_4 l0_4.length c0_4) := cl BK222.out 4 rfl; have hcz10_5 : w9.cell? ⟨gb222, 5, none⟩ = some (.int .i64 a0_5) := cl BK222.out 5 rfl; have hcz10_6 : w9.cell? ⟨gb222, 6, none⟩ = some (.int .i64 a0_6) := cl BK222.out 6 rfl; have hfz10_0 := fz BK222.out 0; have hfz10_1 := fz BK222.out 1; have hfz10_2 := fz BK222.out 2; have hfz10_3 := fz BK222.out 3; have hfz10_4 := fz BK222.out 4; have hfz10_5 := fz BK222.out 5; have hfz10_6 := fz BK222.out 6) | (go_at_call 77; (with_reducible refine (slices_ContainsFunc_77_v71.calls k _ _ l0_4  t224 _ ?side1 ?side2 A7.out).mono ?_); (case side1 => repeat (first | exact (Kd.C_below HR0_4.out HB.out) | (with_reducible refine Kd.C_alloc ?_ _) | (with_reducible refine Kd.C_drewN ?_ _) | (with_reducible refine Kd.C_drew ?_))); (case side2 => exact HC0_4.out); rintro e w11 ⟨rfl, hb⟩; have n0_ := Aside0.mk (blk_below (g := gb222) (o := .cells #[.int .i64 a0_0, .int .i64 a0_1, .int .i64 a0_2, .slice A0_3 l0_3.length c0_3, .slice A0_4 l0_4.length c0_4, .int .i64 a0_5, .int .i64 a0_6] 44 (0, 0)) (by (with_reducible repeat (first | refine blk_drewN ?_ _ | refine blk_drew ?_ | refine blk_alloc ?_ _)); exact BK222.out) hb); have n1_ := Aside0.mk (below_step (by repeat (first | (with_reducible first | exact HB.out | apply ba | apply bn | apply bd | refine bt ?_ GE222.out) | exact HB.out)) hb); clear BK222; clear HB; have BK222 := n0_; have HB := n1_; clear n0_ n1_; (try clear hb); (try clear hb2); (try clear hk); (try clear hi)))
    go_meet
    case rel => exact ⟨_, (!t224), (by first | rfl | (simp; done) | (simp [*]; done)), H', ⟨by first | omega | exact Nat.le_refl _⟩, ⟨by (with_reducible repeat (first | refine blk_drewN ?_ _ | refine blk_drew ?_ | refine blk_alloc ?_ _)); exact BK222.out⟩, ⟨by repeat (first | (with_reducible first | exact HB.out | apply ba | apply bn | apply bd | refine bt ?_ GE222.out) | exact HB.out)⟩⟩
   ·replace c6 := Bool.eq_false_iff.mpr c6
    subst c6
    have H1 : (impl_PlanOk.j0 k false a0_0 a0_1 a0_2 l0_3 l0_4 a0_5 a0_6) = some r := by rw [if_neg (show ¬ (false = true) by decide)] at H; exact H
    clear H
    have H := H1
    clear H1
    have H' := Aside0.mk H
    clear H
    have hcz12_0 : w3.cell? ⟨gb222, 0, none⟩ = some (.int .i64 a0_0) := cl BK222.out 0 rfl
    have hcz12_1 : w3.cell? ⟨gb222, 1, none⟩ = some (.int .i64 a0_1) := cl BK222.out 1 rfl
    have hcz12_2 : w3.cell? ⟨gb222, 2, none⟩ = some (.int .i64 a0_2) := cl BK222.out 2 rfl
    have hcz12_3 : w3.cell? ⟨gb222, 3, none⟩ = some (.slice A0_3 l0_3.length c0_3) := cl BK222.out 3 rfl
    have hcz12_4 : w3.cell? ⟨gb222, 4, none⟩ = some (.slice A0_4 l0_4.length c0_4) := cl BK222.out 4 rfl
    have hcz12_5 : w3.cell? ⟨gb222, 5, none⟩ = some (.int .i64 a0_5) := cl BK222.out 5 rfl
    have hcz12_6 : w3.cell? ⟨gb222, 6, none⟩ = some (.int .i64 a0_6) := cl BK222.out 6 rfl
    have hfz12_0 := fz BK222.out 0
    have hfz12_1 := fz BK222.out 1
    have hfz12_2 := fz BK222.out 2
    have hfz12_3 := fz BK222.out 3
    have hfz12_4 := fz BK222.out 4
    have hfz12_5 := fz BK222.out 5
    have hfz12_6 := fz BK222.out 6
    go_wp2_with (first | (go_at_call 75; (with_reducible refine (impl_rising_75_v76.calls k _ _ l0_4  false _ ?side1 ?side2 A5.out).mono ?_); (case side1 => repeat (first | exact (Kd.C_below HR0_4.out HB.out) | (with_reducible refine Kd.C_alloc ?_ _) | (with_reducible refine Kd.C_drewN ?_ _) | (with_reducible refine Kd.C_drew ?_))); (case side2 => exact HC0_4.out); rintro e w13 ⟨rfl, hb⟩; have n0_ := Aside0.mk (blk_below (g := gb222) (o := .cells #[.int .i64 a0_0, .int .i64 a0_1, .int .i64 a0_2, .slice A0_3 l0_3.length c0_3, .slice A0_4 l0_4.length c0_4, .int .i64 a0_5, .int .i64 a0_6] 44 (0, 0)) (by (with_reducible repeat (first | refine blk_drewN ?_ _ | refine blk_drew ?_ | refine blk_alloc ?_ _)); exact BK222.out) hb); have n1_ := Aside0.mk (below_step (by repeat (first | (with_reducible first | exact HB.out | apply ba | apply bn | apply bd | refine bt ?_ GE222.out) | exact HB.out)) hb); clear BK222; clear HB; have BK222 := n0_; have HB := n1_; clear n0_ n1_; (try clear hb); (try clear hb2); (try clear hk); (try clear hi)))
    go_meet
    case rel => exact ⟨_, (false), (by first | rfl | (simp; done) | (simp [*]; done)), H', ⟨by first | omega | exact Nat.le_refl _⟩, ⟨by (with_reducible repeat (first | refine blk_drewN ?_ _ | refine blk_drew ?_ | refine blk_alloc ?_ _)); exact BK222.out⟩, ⟨by repeat (first | (with_reducible first | exact HB.out | apply ba | apply bn | apply bd | refine bt ?_ GE222.out) | exact HB.out)⟩⟩
  ·rw [if_neg c4] at H
   have c4b0 : decide ((l0_4.length : Int) ≤ 4) = false := decide_eq_false c4
   have c4b1 : decide (l0_4.length ≤ 4) = false := decide_eq_false (by omega)
   clear c4
   (first | rw [c4b0] | (simp only [i64_w, i32_w]; rw [c4b0]) | skip)
   have H' := Aside0.mk H
   clear H
   have hcz14_0 : w3.cell? ⟨gb222, 0, none⟩ = some (.int .i64 a0_0) := cl BK222.out 0 rfl
   have hcz14_1 : w3.cell? ⟨gb222, 1, none⟩ = some (.int .i64 a0_1) := cl BK222.out 1 rfl
   have hcz14_2 : w3.cell? ⟨gb222, 2, none⟩ = some (.int .i64 a0_2) := cl BK222.out 2 rfl
   have hcz14_3 : w3.cell? ⟨gb222, 3, none⟩ = some (.slice A0_3 l0_3.length c0_3) := cl BK222.out 3 rfl
   have hcz14_4 : w3.cell? ⟨gb222, 4, none⟩ = some (.slice A0_4 l0_4.length c0_4) := cl BK222.out 4 rfl
   have hcz14_5 : w3.cell? ⟨gb222, 5, none⟩ = some (.int .i64 a0_5) := cl BK222.out 5 rfl
   have hcz14_6 : w3.cell? ⟨gb222, 6, none⟩ = some (.int .i64 a0_6) := cl BK222.out 6 rfl
   have hfz14_0 := fz BK222.out 0
   have hfz14_1 := fz BK222.out 1
   have hfz14_2 := fz BK222.out 2
   have hfz14_3 := fz BK222.out 3
   have hfz14_4 := fz BK222.out 4
   have hfz14_5 := fz BK222.out 5
   have hfz14_6 := fz BK222.out 6
   go_wp2
   go_meet
   case rel => exact ⟨_, (false), (by first | rfl | (simp; done) | (simp [*]; done)), H', ⟨by first | omega | exact Nat.le_refl _⟩, ⟨by (with_reducible repeat (first | refine blk_drewN ?_ _ | refine blk_drew ?_ | refine blk_alloc ?_ _)); exact BK222.out⟩, ⟨by repeat (first | (with_reducible first | exact HB.out | apply ba | apply bn | apply bd | refine bt ?_ GE222.out) | exact HB.out)⟩⟩
 case rest =>
  clear HC2
  try clear p2
  try clear c3
  try clear c4
  try clear c4b0
  try clear c4b1
  try clear c6
  try clear hcz10_0
  try clear hcz10_1
  try clear hcz10_2
  try clear hcz10_3
  try clear hcz10_4
  try clear hcz10_5
  try clear hcz10_6
  try clear hcz12_0
  try clear hcz12_1
  try clear hcz12_2
  try clear hcz12_3
  try clear hcz12_4
  try clear hcz12_5
  try clear hcz12_6
  try clear hcz14_0
  try clear hcz14_1
  try clear hcz14_2
  try clear hcz14_3
  try clear hcz14_4
  try clear hcz14_5
  try clear hcz14_6
  try clear hcz8_0
  try clear hcz8_1
  try clear hcz8_2
  try clear hcz8_3
  try clear hcz8_4
  try clear hcz8_5
  try clear hcz8_6
  try clear hfz10_0
  try clear hfz10_1
  try clear hfz10_2
  try clear hfz10_3
  try clear hfz10_4
  try clear hfz10_5
  try clear hfz10_6
  try clear hfz12_0
  try clear hfz12_1
  try clear hfz12_2
  try clear hfz12_3
  try clear hfz12_4
  try clear hfz12_5
  try clear hfz12_6
  try clear hfz14_0
  try clear hfz14_1
  try clear hfz14_2
  try clear hfz14_3
  try clear hfz14_4
  try clear hfz14_5
  try clear hfz14_6
  try clear hfz8_0
  try clear hfz8_1
  try clear hfz8_2
  try clear hfz8_3
  try clear hfz8_4
  try clear hfz8_5
  try clear hfz8_6
  obtain ⟨kq, x4_1, rfl, HA, HJ1, BK222, HB⟩ := hcut
  cases kq with
  | zero => exact absurd HA.out (by simp [impl_PlanOk.j0])
  | succ kj1 =>
   have H := HA.out
   clear HA
   simp only [impl_PlanOk.j0] at H
   replace H := Option.bind_eq_some_iff.mp H
   obtain ⟨t225, A150, H⟩ := H
   replace H : (if t225 = true then ((impl_TableOk.f kj1 a0_1 a0_2 l0_3).bind fun t226 => (if t226 = true then (if x4_1 = true then ((impl_in.f a0_5 1 31).bind fun t227 => (if t227 = true then ((impl_in.f a0_6 0 31).bind fun t228 => (some t228)) else (some false))) else (some false)) else (some false))) else (some false)) = some r := H
   have A15 := Aside0.mk A150
   clear A150
   by_cases c16 : t225 = true
   ·subst c16
    have H1 : ((impl_TableOk.f kj1 a0_1 a0_2 l0_3).bind fun t226 => (if t226 = true then (if x4_1 = true then ((impl_in.f a0_5 1 31).bind fun t227 => (if t227 = true then ((impl_in.f a0_6 0 31).bind fun t228 => (some t228)) else (some false))) else (some false)) else (some false))) = some r := by rw [if_pos rfl] at H; exact H
    clear H
    have H := H1
    clear H1
    replace H := Option.bind_eq_some_iff.mp H
    obtain ⟨t226, A170, H⟩ := H
    replace H : (if t226 = true then (if x4_1 = true then ((impl_in.f a0_5 1 31).bind fun t227 => (if t227 = true then ((impl_in.f a0_6 0 31).bind fun t228 => (some t228)) else (some false))) else (some false)) else (some false)) = some r := H
    have A17 := Aside0.mk A170
    clear A170
    by_cases c18 : t226 = true
    ·subst c18
     have H1 : (if x4_1 = true then ((impl_in.f a0_5 1 31).bind fun t227 => (if t227 = true then ((impl_in.f a0_6 0 31).bind fun t228 => (some t228)) else (some false))) else (some false)) = some r := by rw [if_pos rfl] at H; exact H
     clear H
     have H := H1
     clear H1
     by_cases c19 : x4_1 = true
     ·subst c19
      have H1 : ((impl_in.f a0_5 1 31).bind fun t227 => (if t227 = true then ((impl_in.f a0_6 0 31).bind fun t228 => (some t228)) else (some false))) = some r := by rw [if_pos rfl] at H; exact H
      clear H
      have H := H1
      clear H1
      replace H := Option.bind_eq_some_iff.mp H
      obtain ⟨t227, A200, H⟩ := H
      replace H : (if t227 = true then ((impl_in.f a0_6 0 31).bind fun t228 => (some t228)) else (some false)) = some r := H
      have A20 := Aside0.mk A200
      clear A200
      by_cases c21 : t227 = true
      ·subst c21
       have H1 : ((impl_in.f a0_6 0 31).bind fun t228 => (some t228)) = some r := by rw [if_pos rfl] at H; exact H
       clear H
       have H := H1
       clear H1
       replace H := Option.bind_eq_some_iff.mp H
       obtain ⟨t228, A220, H⟩ := H
       replace H : (some t228) = some r := H
       have A22 := Aside0.mk A220
       clear A220
       obtain rfl := Option.some.inj H
       have hcz23_0 : wc.cell? ⟨gb222, 0, none⟩ = some (.int .i64 a0_0) := cl BK222.out 0 rfl
       have hcz23_1 : wc.cell? ⟨gb222, 1, none⟩ = some (.int .i64 a0_1) := cl BK222.out 1 rfl
       have hcz23_2 : wc.cell? ⟨gb222, 2, none⟩ = some (.int .i64 a0_2) := cl BK222.out 2 rfl
       have hcz23_3 : wc.cell? ⟨gb222, 3, none⟩ = some (.slice A0_3 l0_3.length c0_3) := cl BK222.out 3 rfl
       have hcz23_4 : wc.cell? ⟨gb222, 4, none⟩ = some (.slice A0_4 l0_4.length c0_4) := cl BK222.out 4 rfl
       have hcz23_5 : wc.cell? ⟨gb222, 5, none⟩ = some (.int .i64 a0_5) := cl BK222.out 5 rfl
       have hcz23_6 : wc.cell? ⟨gb222, 6, none⟩ = some (.int .i64 a0_6) := cl BK222.out 6 rfl
       have hfz23_0 := fz BK222.out 0
       have hfz23_1 := fz BK222.out 1
       have hfz23_2 := fz BK222.out 2
       have hfz23_3 := fz BK222.out 3
       have hfz23_4 := fz BK222.out 4
       have hfz23_5 := fz BK222.out 5
       have hfz23_6 := fz BK222.out 6
       go_wp2_with (first | ((with_reducible refine gate_callee (f := 74) rfl ?_); refine goesL_ (some 23) rfl rfl Try.func74 (by kernel_rfl) rfl #[.int .i64 a0_0, .int .i64 0, .int .i64 60] rfl (by (try simp only [List.map_toArray, List.map_cons, List.map_nil]); first | done | rfl | (simp only [List.length_drop, List.length_take]; rfl)) ?_; (with_reducible refine (impl_in.calls a0_0 0 60 true _ A15.out).mono ?_); rintro e w' ⟨rfl, ⟨nd, rfl⟩⟩; refine ⟨_, rfl, ?_⟩) | (go_at_call 78; (with_reducible refine (impl_TableOk.calls kj1 a0_1 a0_2 _ _ l0_3 true _ ?side1 ?side2 A17.out).mono ?_); (case side1 => repeat (first | exact (Kd.C_below HR0_3.out (by repeat (first | (with_reducible first | exact HB.out | apply ba | apply bn | apply bd | refine bt ?_ GE222.out) | exact HB.out))) | (with_reducible refine Kd.C_alloc ?_ _) | (with_reducible refine Kd.C_drewN ?_ _) | (with_reducible refine Kd.C_drew ?_))); (case side2 => exact HC0_3.out); rintro e w24 ⟨rfl, hb⟩; have n0_ := Aside0.mk (blk_below (g := gb222) (o := .cells #[.int .i64 a0_0, .int .i64 a0_1, .int .i64 a0_2, .slice A0_3 l0_3.length c0_3, .slice A0_4 l0_4.length c0_4, .int .i64 a0_5, .int .i64 a0_6] 44 (0, 0)) (by (with_reducible repeat (first | refine blk_drewN ?_ _ | refine blk_drew ?_ | refine blk_alloc ?_ _)); exact BK222.out) hb); have n1_ := Aside0.mk (below_step (by repeat (first | (with_reducible first | exact HB.out | apply ba | apply bn | apply bd | refine bt ?_ GE222.out) | exact HB.out)) hb); clear BK222; clear HB; have BK222 := n0_; have HB := n1_; clear n0_ n1_; (try clear hb); (try clear hb2); (try clear hk); (try clear hi); have hcz25_0 : w24.cell? ⟨gb222, 0, none⟩ = some (.int .i64 a0_0) := cl BK222.out 0 rfl; have hcz25_1 : w24.cell? ⟨gb222, 1, none⟩ = some (.int .i64 a0_1) := cl BK222.out 1 rfl; have hcz25_2 : w24.cell? ⟨gb222, 2, none⟩ = some (.int .i64 a0_2) := cl BK222.out 2 rfl; have hcz25_3 : w24.cell? ⟨gb222, 3, none⟩ = some (.slice A0_3 l0_3.length c0_3) := cl BK222.out 3 rfl; have hcz25_4 : w24.cell? ⟨gb222, 4, none⟩ = some (.slice A0_4 l0_4.length c0_4) := cl BK222.out 4 rfl; have hcz25_5 : w24.cell? ⟨gb222, 5, none⟩ = some (.int .i64 a0_5) := cl BK222.out 5 rfl; have hcz25_6 : w24.cell? ⟨gb222, 6, none⟩ = some (.int .i64 a0_6) := cl BK222.out 6 rfl; have hfz25_0 := fz BK222.out 0; have hfz25_1 := fz BK222.out 1; have hfz25_2 := fz BK222.out 2; have hfz25_3 := fz BK222.out 3; have hfz25_4 := fz BK222.out 4; have hfz25_5 := fz BK222.out 5; have hfz25_6 := fz BK222.out 6) | (go_at_call 74; (with_reducible refine (impl_in.calls a0_5 1 31 true _ A20.out).mono ?_); rintro e w' ⟨rfl, ⟨nd, rfl⟩⟩) | (go_at_call 74; (with_reducible refine (impl_in.calls a0_6 0 31 t228 _ A22.out).mono ?_); rintro e w' ⟨rfl, ⟨nd, rfl⟩⟩))
       go_ret
       exact ⟨by first | rfl | (simp [errW_none, errW_some] <;> rfl) | (simp [*, errW_none, errW_some] <;> rfl), by repeat (first | (with_reducible first | exact HB.out | apply ba | apply bn | apply bd | refine bt ?_ GE222.out) | exact HB.out)⟩
      ·replace c21 := Bool.eq_false_iff.mpr c21
       subst c21
       have H1 : (some false) = some r := by rw [if_neg (show ¬ (false = true) by decide)] at H; exact H
       clear H
       have H := H1
       clear H1
       obtain rfl := Option.some.inj H
       have hcz26_0 : wc.cell? ⟨gb222, 0, none⟩ = some (.int .i64 a0_0) := cl BK222.out 0 rfl
       have hcz26_1 : wc.cell? ⟨gb222, 1, none⟩ = some (.int .i64 a0_1) := cl BK222.out 1 rfl
       have hcz26_2 : wc.cell? ⟨gb222, 2, none⟩ = some (.int .i64 a0_2) := cl BK222.out 2 rfl
       have hcz26_3 : wc.cell? ⟨gb222, 3, none⟩ = some (.slice A0_3 l0_3.length c0_3) := cl BK222.out 3 rfl
       have hcz26_4 : wc.cell? ⟨gb222, 4, none⟩ = some (.slice A0_4 l0_4.length c0_4) := cl BK222.out 4 rfl
       have hcz26_5 : wc.cell? ⟨gb222, 5, none⟩ = some (.int .i64 a0_5) := cl BK222.out 5 rfl
       have hcz26_6 : wc.cell? ⟨gb222, 6, none⟩ = some (.int .i64 a0_6) := cl BK222.out 6 rfl
       have hfz26_0 := fz BK222.out 0
       have hfz26_1 := fz BK222.out 1
       have hfz26_2 := fz BK222.out 2
       have hfz26_3 := fz BK222.out 3
       have hfz26_4 := fz BK222.out 4
       have hfz26_5 := fz BK222.out 5
       have hfz26_6 := fz BK222.out 6
       go_wp2_with (first | ((with_reducible refine gate_callee (f := 74) rfl ?_); refine goesL_ (some 23) rfl rfl Try.func74 (by kernel_rfl) rfl #[.int .i64 a0_0, .int .i64 0, .int .i64 60] rfl (by (try simp only [List.map_toArray, List.map_cons, List.map_nil]); first | done | rfl | (simp only [List.length_drop, List.length_take]; rfl)) ?_; (with_reducible refine (impl_in.calls a0_0 0 60 true _ A15.out).mono ?_); rintro e w' ⟨rfl, ⟨nd, rfl⟩⟩; refine ⟨_, rfl, ?_⟩) | (go_at_call 78; (with_reducible refine (impl_TableOk.calls kj1 a0_1 a0_2 _ _ l0_3 true _ ?side1 ?side2 A17.out).mono ?_); (case side1 => repeat (first | exact (Kd.C_below HR0_3.out (by repeat (first | (with_reducible first | exact HB.out | apply ba | apply bn | apply bd | refine bt ?_ GE222.out) | exact HB.out))) | (with_reducible refine Kd.C_alloc ?_ _) | (with_reducible refine Kd.C_drewN ?_ _) | (with_reducible refine Kd.C_drew ?_))); (case side2 => exact HC0_3.out); rintro e w27 ⟨rfl, hb⟩; have n0_ := Aside0.mk (blk_below (g := gb222) (o := .cells #[.int .i64 a0_0, .int .i64 a0_1, .int .i64 a0_2, .slice A0_3 l0_3.length c0_3, .slice A0_4 l0_4.length c0_4, .int .i64 a0_5, .int .i64 a0_6] 44 (0, 0)) (by (with_reducible repeat (first | refine blk_drewN ?_ _ | refine blk_drew ?_ | refine blk_alloc ?_ _)); exact BK222.out) hb); have n1_ := Aside0.mk (below_step (by repeat (first | (with_reducible first | exact HB.out | apply ba | apply bn | apply bd | refine bt ?_ GE222.out) | exact HB.out)) hb); clear BK222; clear HB; have BK222 := n0_; have HB := n1_; clear n0_ n1_; (try clear hb); (try clear hb2); (try clear hk); (try clear hi); have hcz28_0 : w27.cell? ⟨gb222, 0, none⟩ = some (.int .i64 a0_0) := cl BK222.out 0 rfl; have hcz28_1 : w27.cell? ⟨gb222, 1, none⟩ = some (.int .i64 a0_1) := cl BK222.out 1 rfl; have hcz28_2 : w27.cell? ⟨gb222, 2, none⟩ = some (.int .i64 a0_2) := cl BK222.out 2 rfl; have hcz28_3 : w27.cell? ⟨gb222, 3, none⟩ = some (.slice A0_3 l0_3.length c0_3) := cl BK222.out 3 rfl; have hcz28_4 : w27.cell? ⟨gb222, 4, none⟩ = some (.slice A0_4 l0_4.length c0_4) := cl BK222.out 4 rfl; have hcz28_5 : w27.cell? ⟨gb222, 5, none⟩ = some (.int .i64 a0_5) := cl BK222.out 5 rfl; have hcz28_6 : w27.cell? ⟨gb222, 6, none⟩ = some (.int .i64 a0_6) := cl BK222.out 6 rfl; have hfz28_0 := fz BK222.out 0; have hfz28_1 := fz BK222.out 1; have hfz28_2 := fz BK222.out 2; have hfz28_3 := fz BK222.out 3; have hfz28_4 := fz BK222.out 4; have hfz28_5 := fz BK222.out 5; have hfz28_6 := fz BK222.out 6) | (go_at_call 74; (with_reducible refine (impl_in.calls a0_5 1 31 false _ A20.out).mono ?_); rintro e w' ⟨rfl, ⟨nd, rfl⟩⟩))
       go_ret
       exact ⟨by first | rfl | (simp [errW_none, errW_some] <;> rfl) | (simp [*, errW_none, errW_some] <;> rfl), by repeat (first | (with_reducible first | exact HB.out | apply ba | apply bn | apply bd | refine bt ?_ GE222.out) | exact HB.out)⟩
     ·replace c19 := Bool.eq_false_iff.mpr c19
      subst c19
      have H1 : (some false) = some r := by rw [if_neg (show ¬ (false = true) by decide)] at H; exact H
      clear H
      have H := H1
      clear H1
      obtain rfl := Option.some.inj H
      have hcz29_0 : wc.cell? ⟨gb222, 0, none⟩ = some (.int .i64 a0_0) := cl BK222.out 0 rfl
      have hcz29_1 : wc.cell? ⟨gb222, 1, none⟩ = some (.int .i64 a0_1) := cl BK222.out 1 rfl
      have hcz29_2 : wc.cell? ⟨gb222, 2, none⟩ = some (.int .i64 a0_2) := cl BK222.out 2 rfl
      have hcz29_3 : wc.cell? ⟨gb222, 3, none⟩ = some (.slice A0_3 l0_3.length c0_3) := cl BK222.out 3 rfl
      have hcz29_4 : wc.cell? ⟨gb222, 4, none⟩ = some (.slice A0_4 l0_4.length c0_4) := cl BK222.out 4 rfl
      have hcz29_5 : wc.cell? ⟨gb222, 5, none⟩ = some (.int .i64 a0_5) := cl BK222.out 5 rfl
      have hcz29_6 : wc.cell? ⟨gb222, 6, none⟩ = some (.int .i64 a0_6) := cl BK222.out 6 rfl
      have hfz29_0 := fz BK222.out 0
      have hfz29_1 := fz BK222.out 1
      have hfz29_2 := fz BK222.out 2
      have hfz29_3 := fz BK222.out 3
      have hfz29_4 := fz BK222.out 4
      have hfz29_5 := fz BK222.out 5
      have hfz29_6 := fz BK222.out 6
      go_wp2_with (first | ((with_reducible refine gate_callee (f := 74) rfl ?_); refine goesL_ (some 23) rfl rfl Try.func74 (by kernel_rfl) rfl #[.int .i64 a0_0, .int .i64 0, .int .i64 60] rfl (by (try simp only [List.map_toArray, List.map_cons, List.map_nil]); first | done | rfl | (simp only [List.length_drop, List.length_take]; rfl)) ?_; (with_reducible refine (impl_in.calls a0_0 0 60 true _ A15.out).mono ?_); rintro e w' ⟨rfl, ⟨nd, rfl⟩⟩; refine ⟨_, rfl, ?_⟩) | (go_at_call 78; (with_reducible refine (impl_TableOk.calls kj1 a0_1 a0_2 _ _ l0_3 true _ ?side1 ?side2 A17.out).mono ?_); (case side1 => repeat (first | exact (Kd.C_below HR0_3.out (by repeat (first | (with_reducible first | exact HB.out | apply ba | apply bn | apply bd | refine bt ?_ GE222.out) | exact HB.out))) | (with_reducible refine Kd.C_alloc ?_ _) | (with_reducible refine Kd.C_drewN ?_ _) | (with_reducible refine Kd.C_drew ?_))); (case side2 => exact HC0_3.out); rintro e w30 ⟨rfl, hb⟩; have n0_ := Aside0.mk (blk_below (g := gb222) (o := .cells #[.int .i64 a0_0, .int .i64 a0_1, .int .i64 a0_2, .slice A0_3 l0_3.length c0_3, .slice A0_4 l0_4.length c0_4, .int .i64 a0_5, .int .i64 a0_6] 44 (0, 0)) (by (with_reducible repeat (first | refine blk_drewN ?_ _ | refine blk_drew ?_ | refine blk_alloc ?_ _)); exact BK222.out) hb); have n1_ := Aside0.mk (below_step (by repeat (first | (with_reducible first | exact HB.out | apply ba | apply bn | apply bd | refine bt ?_ GE222.out) | exact HB.out)) hb); clear BK222; clear HB; have BK222 := n0_; have HB := n1_; clear n0_ n1_; (try clear hb); (try clear hb2); (try clear hk); (try clear hi)))
      go_ret
      exact ⟨by first | rfl | (simp [errW_none, errW_some] <;> rfl) | (simp [*, errW_none, errW_some] <;> rfl), by repeat (first | (with_reducible first | exact HB.out | apply ba | apply bn | apply bd | refine bt ?_ GE222.out) | exact HB.out)⟩
    ·replace c18 := Bool.eq_false_iff.mpr c18
     subst c18
     have H1 : (some false) = some r := by rw [if_neg (show ¬ (false = true) by decide)] at H; exact H
     clear H
     have H := H1
     clear H1
     obtain rfl := Option.some.inj H
     have hcz31_0 : wc.cell? ⟨gb222, 0, none⟩ = some (.int .i64 a0_0) := cl BK222.out 0 rfl
     have hcz31_1 : wc.cell? ⟨gb222, 1, none⟩ = some (.int .i64 a0_1) := cl BK222.out 1 rfl
     have hcz31_2 : wc.cell? ⟨gb222, 2, none⟩ = some (.int .i64 a0_2) := cl BK222.out 2 rfl
     have hcz31_3 : wc.cell? ⟨gb222, 3, none⟩ = some (.slice A0_3 l0_3.length c0_3) := cl BK222.out 3 rfl
     have hcz31_4 : wc.cell? ⟨gb222, 4, none⟩ = some (.slice A0_4 l0_4.length c0_4) := cl BK222.out 4 rfl
     have hcz31_5 : wc.cell? ⟨gb222, 5, none⟩ = some (.int .i64 a0_5) := cl BK222.out 5 rfl
     have hcz31_6 : wc.cell? ⟨gb222, 6, none⟩ = some (.int .i64 a0_6) := cl BK222.out 6 rfl
     have hfz31_0 := fz BK222.out 0
     have hfz31_1 := fz BK222.out 1
     have hfz31_2 := fz BK222.out 2
     have hfz31_3 := fz BK222.out 3
     have hfz31_4 := fz BK222.out 4
     have hfz31_5 := fz BK222.out 5
     have hfz31_6 := fz BK222.out 6
     go_wp2_with (first | ((with_reducible refine gate_callee (f := 74) rfl ?_); refine goesL_ (some 23) rfl rfl Try.func74 (by kernel_rfl) rfl #[.int .i64 a0_0, .int .i64 0, .int .i64 60] rfl (by (try simp only [List.map_toArray, List.map_cons, List.map_nil]); first | done | rfl | (simp only [List.length_drop, List.length_take]; rfl)) ?_; (with_reducible refine (impl_in.calls a0_0 0 60 true _ A15.out).mono ?_); rintro e w' ⟨rfl, ⟨nd, rfl⟩⟩; refine ⟨_, rfl, ?_⟩) | (go_at_call 78; (with_reducible refine (impl_TableOk.calls kj1 a0_1 a0_2 _ _ l0_3 false _ ?side1 ?side2 A17.out).mono ?_); (case side1 => repeat (first | exact (Kd.C_below HR0_3.out (by repeat (first | (with_reducible first | exact HB.out | apply ba | apply bn | apply bd | refine bt ?_ GE222.out) | exact HB.out))) | (with_reducible refine Kd.C_alloc ?_ _) | (with_reducible refine Kd.C_drewN ?_ _) | (with_reducible refine Kd.C_drew ?_))); (case side2 => exact HC0_3.out); rintro e w32 ⟨rfl, hb⟩; have n0_ := Aside0.mk (blk_below (g := gb222) (o := .cells #[.int .i64 a0_0, .int .i64 a0_1, .int .i64 a0_2, .slice A0_3 l0_3.length c0_3, .slice A0_4 l0_4.length c0_4, .int .i64 a0_5, .int .i64 a0_6] 44 (0, 0)) (by (with_reducible repeat (first | refine blk_drewN ?_ _ | refine blk_drew ?_ | refine blk_alloc ?_ _)); exact BK222.out) hb); have n1_ := Aside0.mk (below_step (by repeat (first | (with_reducible first | exact HB.out | apply ba | apply bn | apply bd | refine bt ?_ GE222.out) | exact HB.out)) hb); clear BK222; clear HB; have BK222 := n0_; have HB := n1_; clear n0_ n1_; (try clear hb); (try clear hb2); (try clear hk); (try clear hi)))
     go_ret
     exact ⟨by first | rfl | (simp [errW_none, errW_some] <;> rfl) | (simp [*, errW_none, errW_some] <;> rfl), by repeat (first | (with_reducible first | exact HB.out | apply ba | apply bn | apply bd | refine bt ?_ GE222.out) | exact HB.out)⟩
   ·replace c16 := Bool.eq_false_iff.mpr c16
    subst c16
    have H1 : (some false) = some r := by rw [if_neg (show ¬ (false = true) by decide)] at H; exact H
    clear H
    have H := H1
    clear H1
    obtain rfl := Option.some.inj H
    have hcz33_0 : wc.cell? ⟨gb222, 0, none⟩ = some (.int .i64 a0_0) := cl BK222.out 0 rfl
    have hcz33_1 : wc.cell? ⟨gb222, 1, none⟩ = some (.int .i64 a0_1) := cl BK222.out 1 rfl
    have hcz33_2 : wc.cell? ⟨gb222, 2, none⟩ = some (.int .i64 a0_2) := cl BK222.out 2 rfl
    have hcz33_3 : wc.cell? ⟨gb222, 3, none⟩ = some (.slice A0_3 l0_3.length c0_3) := cl BK222.out 3 rfl
    have hcz33_4 : wc.cell? ⟨gb222, 4, none⟩ = some (.slice A0_4 l0_4.length c0_4) := cl BK222.out 4 rfl
    have hcz33_5 : wc.cell? ⟨gb222, 5, none⟩ = some (.int .i64 a0_5) := cl BK222.out 5 rfl
    have hcz33_6 : wc.cell? ⟨gb222, 6, none⟩ = some (.int .i64 a0_6) := cl BK222.out 6 rfl
    have hfz33_0 := fz BK222.out 0
    have hfz33_1 := fz BK222.out 1
    have hfz33_2 := fz BK222.out 2
    have hfz33_3 := fz BK222.out 3
    have hfz33_4 := fz BK222.out 4
    have hfz33_5 := fz BK222.out 5
    have hfz33_6 := fz BK222.out 6
    go_wp2_with (first | ((with_reducible refine gate_callee (f := 74) rfl ?_); refine goesL_ (some 23) rfl rfl Try.func74 (by kernel_rfl) rfl #[.int .i64 a0_0, .int .i64 0, .int .i64 60] rfl (by (try simp only [List.map_toArray, List.map_cons, List.map_nil]); first | done | rfl | (simp only [List.length_drop, List.length_take]; rfl)) ?_; (with_reducible refine (impl_in.calls a0_0 0 60 false _ A15.out).mono ?_); rintro e w' ⟨rfl, ⟨nd, rfl⟩⟩; refine ⟨_, rfl, ?_⟩))
    go_ret
    exact ⟨by first | rfl | (simp [errW_none, errW_some] <;> rfl) | (simp [*, errW_none, errW_some] <;> rfl), by repeat (first | (with_reducible first | exact HB.out | apply ba | apply bn | apply bd | refine bt ?_ GE222.out) | exact HB.out)⟩

end Go.Proofs.Ytidhlpaoncneiaa.PFnExactPlanPast
