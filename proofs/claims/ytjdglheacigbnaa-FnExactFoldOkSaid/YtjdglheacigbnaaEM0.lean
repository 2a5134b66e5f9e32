/- A part of the proof of a law of the given program: contracts of functions. No condition of its own. -/
import Derived.Test.YtjdglheacigbnaaETabX
import Derived.Test.YtjdglheacigbnaaEG4
namespace Go.Proofs.YtjdglheacigbnaaE
open Go.Proofs
set_option maxRecDepth 100000
theorem bool_of (p : Prop) : ∃ bb : Bool, bb = true ↔ p := by
  by_cases h : p
  · exact ⟨true, by simp [h]⟩
  · exact ⟨false, by simp [h]⟩
theorem no_of {bb : Bool} {p : Prop} (h : bb = true ↔ p) (hp : ¬ p) : bb = false := by
  cases bb
  · rfl
  · exact absurd (h.1 rfl) hp
theorem yes_of {bb : Bool} {p : Prop} (h : bb = true ↔ p) (hp : p) : bb = true := h.2 hp
theorem bb_eq {bb : Bool} {p q : Prop} [Decidable q] (h : bb = true ↔ p) (e : p ↔ q) : decide q = bb := by
  rw [Bool.eq_iff_iff, decide_eq_true_eq, h, e]
theorem t21 (n lo hi : Int) : Tri Try.prog 21 [.i64 n, .i64 lo, .i64 hi] [] (.bool (decide (lo ≤ n ∧ n ≤ hi))) [] := by
  refine Tri.of tok Try.func21 rfl ?_; simp only [Try.ntmps21, Try.results21, List.length_cons, List.length_nil, Nat.reduceAdd, Nat.reduceSub, List.replicate_succ, List.replicate_zero, List.cons_append, List.nil_append]; refine run_ok tok 400 _ _ ?_; simp only [↓reduceIte, run_opsNil, run_op, run_opT, run_seq, run_ret, run_region, dop, ev, ofV, ofLeaf, put, yield, dBin, pureP, ↓sel_true, ↓sel_false, List.getD_cons_zero, List.getD_cons_succ, List.set_cons_zero, List.set_cons_succ, Option.map_some, Option.bind_some, List.getElem?_toArray, List.getElem?_cons_zero, List.getElem?_cons_succ, Bool.false_eq_true, true_and]
  refine ⟨fun h => ?_, fun h => ?_⟩ <;> refine Out.of [] ?_ <;> simp only [decide_eq_true_eq, decide_eq_false_iff_not] at h <;> simp [outP, outOf, resL, idTo, noW, fstNodup, cV, cE, cL, cView, Ent.w, h]
theorem t58 (n lo hi : Int) : Tri Try.prog 58 [.i64 n, .i64 lo, .i64 hi] [] (.bool (decide (lo ≤ n ∧ n ≤ hi))) [] := by
  refine Tri.of tok Try.func58 rfl ?_; simp only [Try.ntmps58, Try.results58, List.length_cons, List.length_nil, Nat.reduceAdd, Nat.reduceSub, List.replicate_succ, List.replicate_zero, List.cons_append, List.nil_append]; refine run_ok tok 400 _ _ ?_; simp only [↓reduceIte, run_opsNil, run_op, run_opT, run_seq, run_ret, run_region, dop, ev, ofV, ofLeaf, put, yield, dBin, pureP, ↓sel_true, ↓sel_false, List.getD_cons_zero, List.getD_cons_succ, List.set_cons_zero, List.set_cons_succ, Option.map_some, Option.bind_some, List.getElem?_toArray, List.getElem?_cons_zero, List.getElem?_cons_succ, Bool.false_eq_true, true_and]
  refine ⟨fun h => ?_, fun h => ?_⟩ <;> refine Out.of [] ?_ <;> simp only [decide_eq_true_eq, decide_eq_false_iff_not] at h <;> simp [outP, outOf, resL, idTo, noW, fstNodup, cV, cE, cL, cView, Ent.w, h]
theorem t24 (k : Int) : Tri Try.prog 24 [.i64 k] [] (.bool (decide (0 ≤ k ∧ k ≤ 4))) [] := by
  refine Tri.of tok Try.func24 rfl ?_; simp only [Try.ntmps24, Try.results24, List.length_cons, List.length_nil, Nat.reduceAdd, Nat.reduceSub, List.replicate_succ, List.replicate_zero, List.cons_append, List.nil_append]; refine run_ok tok 400 _ _ ?_; simp only [run_opsNil, run_op, run_seq, run_region, dop, ev, ofV, ofLeaf, put, List.getD_cons_zero, List.set_cons_zero, List.set_cons_succ, true_and]
  refine D.call Try.func58 [] (t58 k 0 4) ?_; simp only [callP, callOk, wOk, noW, fstNodup, allW, sig, renV, renE, renL, afterH, backH, capV, cV, cE, cL, cVs, cView, ev, ofV, ofLeaf, Ent.w, put, Bool.or_true, Bool.and_true, List.all_nil, List.getD_cons_zero, List.getD_cons_succ, List.set_cons_zero, List.set_cons_succ, List.length_nil, List.drop_nil, List.map_cons, List.map_nil, List.append_nil, Nat.not_lt_zero, decide_true, decide_false, true_and, and_self]; refine run_ok tok 400 _ _ ?_; simp only [run_opsNil, run_op, run_ret, dop, ev, put, List.getD_cons_zero, List.getD_cons_succ, List.set_cons_zero, List.set_cons_succ, true_and]
  refine Out.of [] ?_; simp (config := {contextual := true}) [outP, outOf, resL, idTo, noW, fstNodup, cV, cE, cL, cView, Ent.w]
end Go.Proofs.YtjdglheacigbnaaE
