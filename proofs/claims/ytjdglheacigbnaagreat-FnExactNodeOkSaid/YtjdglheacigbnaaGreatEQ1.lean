/- A part of the proof of a law of the given program: contracts of functions. No condition of its own. -/
import Derived.Test.YtjdglheacigbnaaGreatETabX
import Derived.Test.YtjdglheacigbnaaGreatEG4
namespace Go.Proofs.YtjdglheacigbnaaGreatE.R
open Go.Proofs
set_option maxRecDepth 100000
theorem bool_of (p : Prop) : ∃ bb : Bool, bb = true ↔ p := by
  by_cases h : p
  · exact ⟨true, by simp [h]⟩
  · exact ⟨false, by simp [h]⟩
theorem no_of {bb : Bool} {p : Prop} (h : bb = true ↔ p) (hp : ¬ p) : bb = false := by
  cases bb
  · rfl
  · exact absurd (h.1 rfl) hp
theorem yes_of {bb : Bool} {p : Prop} (h : bb = true ↔ p) (hp : p) : bb = true := h.2 hp
theorem t26 (n lo hi : Int) : Tri Tryz.prog 26 [.i64 n, .i64 lo, .i64 hi] [] (.bool (decide (lo ≤ n ∧ n ≤ hi))) [] := by
  refine Tri.of tok Tryz.func26 rfl ?_; simp only [Tryz.ntmps26, Tryz.results26, List.length_cons, List.length_nil, Nat.reduceAdd, Nat.reduceSub, List.replicate_succ, List.replicate_zero, List.cons_append, List.nil_append]; refine run_ok tok 400 _ _ ?_; simp only [↓reduceIte, run_opsNil, run_op, run_opT, run_seq, run_ret, run_region, dop, ev, ofV, ofLeaf, put, yield, dBin, pureP, ↓sel_true, ↓sel_false, List.getD_cons_zero, List.getD_cons_succ, List.set_cons_zero, List.set_cons_succ, Option.map_some, Option.bind_some, List.getElem?_toArray, List.getElem?_cons_zero, List.getElem?_cons_succ, Bool.false_eq_true, true_and]
  refine ⟨fun h => ?_, fun h => ?_⟩ <;> refine Out.of [] ?_ <;> simp only [decide_eq_true_eq, decide_eq_false_iff_not] at h <;> simp [outP, outOf, resL, idTo, noW, fstNodup, cV, cE, cL, cView, Ent.w, h]
theorem t43 (n lo hi : Int) : Tri Tryz.prog 43 [.i64 n, .i64 lo, .i64 hi] [] (.bool (decide (lo ≤ n ∧ n ≤ hi))) [] := by
  refine Tri.of tok Tryz.func43 rfl ?_; simp only [Tryz.ntmps43, Tryz.results43, List.length_cons, List.length_nil, Nat.reduceAdd, Nat.reduceSub, List.replicate_succ, List.replicate_zero, List.cons_append, List.nil_append]; refine run_ok tok 400 _ _ ?_; simp only [↓reduceIte, run_opsNil, run_op, run_opT, run_seq, run_ret, run_region, dop, ev, ofV, ofLeaf, put, yield, dBin, pureP, ↓sel_true, ↓sel_false, List.getD_cons_zero, List.getD_cons_succ, List.set_cons_zero, List.set_cons_succ, Option.map_some, Option.bind_some, List.getElem?_toArray, List.getElem?_cons_zero, List.getElem?_cons_succ, Bool.false_eq_true, true_and]
  refine ⟨fun h => ?_, fun h => ?_⟩ <;> refine Out.of [] ?_ <;> simp only [decide_eq_true_eq, decide_eq_false_iff_not] at h <;> simp [outP, outOf, resL, idTo, noW, fstNodup, cV, cE, cL, cView, Ent.w, h]
theorem t42 (k : Int) : Tri Tryz.prog 42 [.i64 k] [] (.bool (decide (0 ≤ k ∧ k ≤ 4))) [] := by
  refine Tri.of tok Tryz.func42 rfl ?_; simp only [Tryz.ntmps42, Tryz.results42, List.length_cons, List.length_nil, Nat.reduceAdd, Nat.reduceSub, List.replicate_succ, List.replicate_zero, List.cons_append, List.nil_append]; refine run_ok tok 400 _ _ ?_; simp only [run_opsNil, run_op, run_seq, run_region, dop, ev, ofV, ofLeaf, put, List.getD_cons_zero, List.set_cons_zero, List.set_cons_succ, true_and]
  refine D.call Tryz.func43 [] (t43 k 0 4) ?_; simp only [callP, callOk, wOk, noW, fstNodup, allW, sig, renV, renE, renL, afterH, backH, capV, cV, cE, cL, cVs, cView, ev, ofV, ofLeaf, Ent.w, put, Bool.or_true, Bool.and_true, List.all_nil, List.getD_cons_zero, List.getD_cons_succ, List.set_cons_zero, List.set_cons_succ, List.length_nil, List.drop_nil, List.map_cons, List.map_nil, List.append_nil, Nat.not_lt_zero, decide_true, decide_false, true_and, and_self]; refine run_ok tok 400 _ _ ?_; simp only [run_opsNil, run_op, run_ret, dop, ev, put, List.getD_cons_zero, List.getD_cons_succ, List.set_cons_zero, List.set_cons_succ, true_and]
  refine Out.of [] ?_; simp (config := {contextual := true}) [outP, outOf, resL, idTo, noW, fstNodup, cV, cE, cL, cView, Ent.w]
theorem t101 (k : Int) : Tri Tryz.prog 101 [.i64 k] [] (.bool (decide (0 ≤ k ∧ k ≤ 3))) [] := by
  refine Tri.of tok Tryz.func101 rfl ?_; simp only [Tryz.ntmps101, Tryz.results101, List.length_cons, List.length_nil, Nat.reduceAdd, Nat.reduceSub, List.replicate_succ, List.replicate_zero, List.cons_append, List.nil_append]; refine run_ok tok 400 _ _ ?_; simp only [run_opsNil, run_op, run_seq, run_region, dop, ev, ofV, ofLeaf, put, List.getD_cons_zero, List.set_cons_zero, List.set_cons_succ, true_and]
  refine D.call Tryz.func43 [] (t43 k 0 3) ?_; simp only [callP, callOk, wOk, noW, fstNodup, allW, sig, renV, renE, renL, afterH, backH, capV, cV, cE, cL, cVs, cView, ev, ofV, ofLeaf, Ent.w, put, Bool.or_true, Bool.and_true, List.all_nil, List.getD_cons_zero, List.getD_cons_succ, List.set_cons_zero, List.set_cons_succ, List.length_nil, List.drop_nil, List.map_cons, List.map_nil, List.append_nil, Nat.not_lt_zero, decide_true, decide_false, true_and, and_self]; refine run_ok tok 400 _ _ ?_; simp only [run_opsNil, run_op, run_ret, dop, ev, put, List.getD_cons_zero, List.getD_cons_succ, List.set_cons_zero, List.set_cons_succ, true_and]
  refine Out.of [] ?_; simp (config := {contextual := true}) [outP, outOf, resL, idTo, noW, fstNodup, cV, cE, cL, cView, Ent.w]
theorem t102 (k : Int) : Tri Tryz.prog 102 [.i64 k] [] (.bool (decide (1 ≤ k ∧ k ≤ 9999))) [] := by
  refine Tri.of tok Tryz.func102 rfl ?_; simp only [Tryz.ntmps102, Tryz.results102, List.length_cons, List.length_nil, Nat.reduceAdd, Nat.reduceSub, List.replicate_succ, List.replicate_zero, List.cons_append, List.nil_append]; refine run_ok tok 400 _ _ ?_; simp only [run_opsNil, run_op, run_seq, run_region, dop, ev, ofV, ofLeaf, put, List.getD_cons_zero, List.set_cons_zero, List.set_cons_succ, true_and]
  refine D.call Tryz.func43 [] (t43 k 1 9999) ?_; simp only [callP, callOk, wOk, noW, fstNodup, allW, sig, renV, renE, renL, afterH, backH, capV, cV, cE, cL, cVs, cView, ev, ofV, ofLeaf, Ent.w, put, Bool.or_true, Bool.and_true, List.all_nil, List.getD_cons_zero, List.getD_cons_succ, List.set_cons_zero, List.set_cons_succ, List.length_nil, List.drop_nil, List.map_cons, List.map_nil, List.append_nil, Nat.not_lt_zero, decide_true, decide_false, true_and, and_self]; refine run_ok tok 400 _ _ ?_; simp only [run_opsNil, run_op, run_ret, dop, ev, put, List.getD_cons_zero, List.getD_cons_succ, List.set_cons_zero, List.set_cons_succ, true_and]
  refine Out.of [] ?_; simp (config := {contextual := true}) [outP, outOf, resL, idTo, noW, fstNodup, cV, cE, cL, cView, Ent.w]
theorem t66 (n : Nat) (hn : n ≤ 60) : Tri Tryz.prog 66 [.i64 n] [] (.i64 ((2 : Int) ^ n)) [] := by
  refine Tri.of tok Tryz.func66 rfl ?_; simp only [Tryz.ntmps66, Tryz.results66, List.length_cons, List.length_nil, Nat.reduceAdd, Nat.reduceSub, List.replicate_succ, List.replicate_zero, List.cons_append, List.nil_append]; refine run_ok tok 400 _ _ ?_; simp only [run_opsNil, run_op, run_seq, run_block, run_region, run_loop, dop, ev, ofV, ofLeaf, put, List.set_cons_zero, List.set_cons_succ, true_and]
  refine D.loopI (fun k : Nat => ⟨rg 13 [(0, .i64 n), (3, .i64 ((2 : Int) ^ k)), (4, .i64 k)], []⟩) (fun k => k ≤ n) (fun k => n - k) 0 [] (Nat.zero_le _) ?_ ?_
  · simp [idTo, noW, fstNodup, cV, cE, cL, cVs, cView, Ent.w, lessP, rg, List.replicate_succ]
  intro k hk
  simp only [rg, List.replicate_succ, List.replicate_zero, List.set_cons_zero, List.set_cons_succ]
  refine run_ok tok 400 _ _ ?_; simp only [↓reduceIte, run_blk, run_back, run_opsNil, run_op, run_skip, run_seq, run_block, run_cond, run_exit, run_ret, run_region, dop, ev, ofV, ofLeaf, put, told, exitT, dBin, pureP, List.getD_cons_zero, List.getD_cons_succ, List.set_cons_zero, List.set_cons_succ, Option.map_some, true_and]
  refine ⟨fun q => ?_, fun q => ?_⟩ <;> try simp only [decide_eq_true_eq, decide_eq_false_iff_not] at q
  · have hw : IntKind.i64.wrap ((k : Int) + 1) = ((k + 1 : Nat) : Int) := by rw [IntKind.wrap_i64]; omega
    have hb : (2 : Int) ^ k ≤ 2 ^ 60 := by
      have : (2 : Nat) ^ k ≤ 2 ^ 60 := Nat.pow_le_pow_right (by omega) (by omega)
      exact_mod_cast this
    have hb0 : (0 : Int) < 2 ^ k := Int.pow_pos (by omega)
    have hw2 : IntKind.i64.wrap ((2 : Int) ^ k * 2) = (2 : Int) ^ (k + 1) := by rw [IntKind.wrap_i64, Int.pow_succ]; omega
    refine ⟨k + 1, [], by omega, by omega, ?_⟩
    simp (config := {contextual := true}) [idTo, noW, fstNodup, cV, cE, cL, cVs, cView, Ent.w, lessP, hw, hw2]
  obtain rfl : n = k := by omega
  refine Out.of [] ?_; simp (config := {contextual := true}) [outP, outOf, resL, idTo, noW, fstNodup, cV, cE, cL, cView, Ent.w]
theorem t28 : Tri Tryz.prog 28 [] [] (.i64 31) [] := by
  refine Tri.of tok Tryz.func28 rfl ?_; simp only [Tryz.ntmps28, Tryz.results28, List.length_nil, Nat.reduceSub, List.replicate_succ, List.replicate_zero, List.nil_append]; refine run_ok tok 400 _ _ ?_; simp only [run_opsNil, run_op, run_seq, run_region, dop, ev, ofV, ofLeaf, put, List.set_cons_zero, true_and]
  refine D.call Tryz.func66 [] (t66 5 (by omega)) ?_; simp only [callP, callOk, wOk, noW, fstNodup, allW, sig, renV, renE, renL, afterH, backH, capV, cV, cE, cL, cVs, cView, ev, ofV, ofLeaf, Ent.w, put, Bool.or_true, Bool.and_true, List.all_nil, List.set_cons_zero, List.set_cons_succ, List.length_nil, List.drop_nil, List.map_cons, List.map_nil, List.append_nil, Nat.not_lt_zero, decide_true, decide_false, true_and, and_true]; refine ⟨rfl, ?_⟩; refine run_ok tok 400 _ _ ?_; simp only [↓reduceIte, run_opsNil, run_op, run_ret, dop, ev, ofV, ofLeaf, put, dBin, pureP, List.getD_cons_zero, List.getD_cons_succ, List.set_cons_zero, List.set_cons_succ, Option.map_some, true_and]
  refine Out.of [] ?_; simp (config := {contextual := true}) [outP, outOf, resL, idTo, noW, fstNodup, cV, cE, cL, cView, Ent.w]
  rw [IntKind.wrap_i64]; decide
theorem t115 (k s c a o : Int) (x : ByteArray) : Tri Tryz.prog 115 [.agg [.i64 k, .i64 s, .i64 c, .i64 a, .i64 o, .str x]] [] (.bool (decide (k = 0 ∨ k = 8))) [] := by
  refine Tri.of tok Tryz.func115 rfl ?_; simp only [Tryz.ntmps115, Tryz.results115, List.length_cons, List.length_nil, Nat.reduceAdd, Nat.reduceSub, List.replicate_succ, List.replicate_zero, List.cons_append, List.nil_append]; refine run_ok tok 400 _ _ ?_; simp only [↓reduceIte, run_opsNil, run_op, run_opF, run_seq, run_ret, run_region, dop, ev, ofV, ofLeaf, put, yield, dBin, dFieldAddr, dBox, dLoad, newRow1, cellsOf, DV.leaf, Row.z, Row.n, Row.at, Ent.m, Ent.row, look, pureP, pureO, newP, ↓sel_true, ↓sel_false, tab, TK.agg, List.getD_cons_zero, List.getD_cons_succ, List.set_cons_zero, List.set_cons_succ, Option.map_some, Option.bind_some, Option.join_some, List.getElem?_toArray, List.getElem?_cons_zero, List.getElem?_cons_succ, Bool.false_eq_true, true_and, and_true, List.length_cons, List.length_nil, Nat.reduceAdd, List.nil_append, List.drop_zero, List.take_zero, List.take_succ_cons, List.headD_cons, List.all_cons, List.all_nil, Bool.and_self, Nat.reduceLeDiff, Nat.lt_add_one, or_true, Nat.add_zero, Nat.zero_add, reduceCtorEq]
  refine ⟨fun q => ?_, fun q => ?_⟩ <;> try simp only [decide_eq_true_eq, decide_eq_false_iff_not] at q
  · refine Out.of [] ?_; simp (config := {contextual := true}) [outP, outOf, resL, idTo, noW, fstNodup, cV, cE, cL, cView, Ent.w, q]
  · refine Out.of [] ?_; simp (config := {contextual := true}) [outP, outOf, resL, idTo, noW, fstNodup, cV, cE, cL, cView, Ent.w, q]
end Go.Proofs.YtjdglheacigbnaaGreatE.R
