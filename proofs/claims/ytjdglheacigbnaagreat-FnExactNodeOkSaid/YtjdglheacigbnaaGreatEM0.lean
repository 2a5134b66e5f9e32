/- A part of the proof of a law of the given program: contracts of functions. No condition of its own. -/
import Derived.Test.YtjdglheacigbnaaGreatETabX
import Derived.Test.YtjdglheacigbnaaGreatEG4
namespace Go.Proofs.YtjdglheacigbnaaGreatE
open Go.Proofs
set_option maxRecDepth 100000
theorem bool_of (p : Prop) : ∃ bb : Bool, bb = true ↔ p := by
  by_cases h : p
  · exact ⟨true, by simp [h]⟩
  · exact ⟨false, by simp [h]⟩
theorem no_of {bb : Bool} {p : Prop} (h : bb = true ↔ p) (hp : ¬ p) : bb = false := by
  cases bb
  · rfl
  · exact absurd (h.1 rfl) hp
theorem yes_of {bb : Bool} {p : Prop} (h : bb = true ↔ p) (hp : p) : bb = true := h.2 hp
theorem bb_eq {bb : Bool} {p q : Prop} [Decidable q] (h : bb = true ↔ p) (e : p ↔ q) : decide q = bb := by
  rw [Bool.eq_iff_iff, decide_eq_true_eq, h, e]
theorem t26 (n lo hi : Int) : Tri Tryz.prog 26 [.i64 n, .i64 lo, .i64 hi] [] (.bool (decide (lo ≤ n ∧ n ≤ hi))) [] := by
  refine Tri.of tok Tryz.func26 rfl ?_; simp only [Tryz.ntmps26, Tryz.results26, List.length_cons, List.length_nil, Nat.reduceAdd, Nat.reduceSub, List.replicate_succ, List.replicate_zero, List.cons_append, List.nil_append]; refine run_ok tok 400 _ _ ?_; simp only [↓reduceIte, run_opsNil, run_op, run_opT, run_seq, run_ret, run_region, dop, ev, ofV, ofLeaf, put, yield, dBin, pureP, ↓sel_true, ↓sel_false, List.getD_cons_zero, List.getD_cons_succ, List.set_cons_zero, List.set_cons_succ, Option.map_some, Option.bind_some, List.getElem?_toArray, List.getElem?_cons_zero, List.getElem?_cons_succ, Bool.false_eq_true, true_and]
  refine ⟨fun h => ?_, fun h => ?_⟩ <;> refine Out.of [] ?_ <;> simp only [decide_eq_true_eq, decide_eq_false_iff_not] at h <;> simp [outP, outOf, resL, idTo, noW, fstNodup, cV, cE, cL, cView, Ent.w, h]
theorem t43 (n lo hi : Int) : Tri Tryz.prog 43 [.i64 n, .i64 lo, .i64 hi] [] (.bool (decide (lo ≤ n ∧ n ≤ hi))) [] := by
  refine Tri.of tok Tryz.func43 rfl ?_; simp only [Tryz.ntmps43, Tryz.results43, List.length_cons, List.length_nil, Nat.reduceAdd, Nat.reduceSub, List.replicate_succ, List.replicate_zero, List.cons_append, List.nil_append]; refine run_ok tok 400 _ _ ?_; simp only [↓reduceIte, run_opsNil, run_op, run_opT, run_seq, run_ret, run_region, dop, ev, ofV, ofLeaf, put, yield, dBin, pureP, ↓sel_true, ↓sel_false, List.getD_cons_zero, List.getD_cons_succ, List.set_cons_zero, List.set_cons_succ, Option.map_some, Option.bind_some, List.getElem?_toArray, List.getElem?_cons_zero, List.getElem?_cons_succ, Bool.false_eq_true, true_and]
  refine ⟨fun h => ?_, fun h => ?_⟩ <;> refine Out.of [] ?_ <;> simp only [decide_eq_true_eq, decide_eq_false_iff_not] at h <;> simp [outP, outOf, resL, idTo, noW, fstNodup, cV, cE, cL, cView, Ent.w, h]
theorem t42 (k : Int) : Tri Tryz.prog 42 [.i64 k] [] (.bool (decide (0 ≤ k ∧ k ≤ 4))) [] := by
  refine Tri.of tok Tryz.func42 rfl ?_; simp only [Tryz.ntmps42, Tryz.results42, List.length_cons, List.length_nil, Nat.reduceAdd, Nat.reduceSub, List.replicate_succ, List.replicate_zero, List.cons_append, List.nil_append]; refine run_ok tok 400 _ _ ?_; simp only [run_opsNil, run_op, run_seq, run_region, dop, ev, ofV, ofLeaf, put, List.getD_cons_zero, List.set_cons_zero, List.set_cons_succ, true_and]
  refine D.call Tryz.func43 [] (t43 k 0 4) ?_; simp only [callP, callOk, wOk, noW, fstNodup, allW, sig, renV, renE, renL, afterH, backH, capV, cV, cE, cL, cVs, cView, ev, ofV, ofLeaf, Ent.w, put, Bool.or_true, Bool.and_true, List.all_nil, List.getD_cons_zero, List.getD_cons_succ, List.set_cons_zero, List.set_cons_succ, List.length_nil, List.drop_nil, List.map_cons, List.map_nil, List.append_nil, Nat.not_lt_zero, decide_true, decide_false, true_and, and_self]; refine run_ok tok 400 _ _ ?_; simp only [run_opsNil, run_op, run_ret, dop, ev, put, List.getD_cons_zero, List.getD_cons_succ, List.set_cons_zero, List.set_cons_succ, true_and]
  refine Out.of [] ?_; simp (config := {contextual := true}) [outP, outOf, resL, idTo, noW, fstNodup, cV, cE, cL, cView, Ent.w]
end Go.Proofs.YtjdglheacigbnaaGreatE
