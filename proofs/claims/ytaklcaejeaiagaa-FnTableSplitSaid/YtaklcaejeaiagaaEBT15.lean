/- A part of the proof of a law of the given program: contracts of functions. No condition of its own. -/
import Derived.Test.YtaklcaejeaiagaaEBT14
namespace Go.Proofs.YtaklcaejeaiagaaE
open Go.Proofs
set_option maxRecDepth 100000
theorem t49n : Tri Try.prog 49 [.nils, .nils] [] (.bool true) [] := by
  refine Tri.of tok Try.func49 rfl ?_; simp only [Try.ntmps49, Try.results49, List.length_cons, List.length_nil, Nat.reduceAdd, Nat.reduceSub, List.replicate_succ, List.replicate_zero, List.cons_append, List.nil_append]; refine run_ok tok 400 _ _ ?_; simp only [↓reduceIte, run_opsNil, run_op, run_skip, run_seq, run_block, run_cond, run_ret, run_region, run_loop, dop, ev, ofV, ofLeaf, put, told, dBin, dLen, dBuiltin, pureP, pureO, tab, List.getD_cons_zero, List.getD_cons_succ, List.set_cons_zero, List.set_cons_succ, Option.map_some, true_and, List.map_cons, List.map_nil]
  simp only [ne_eq, not_true_eq_false, decide_false, sel_false]
  refine D.loopI (fun k : Nat => ⟨rg 27 [(0, .nils), (1, .nils), (5, .i64 0)], []⟩) (fun k => k = 0) (fun k => 0) 0 [] rfl ?_ ?_
  · simp [idTo, noW, fstNodup, cV, cE, cL, cVs, cView, Ent.w, lessP, rg, List.replicate_succ]
  · intro k hk
    simp only [rg, List.replicate_succ, List.replicate_zero, List.set_cons_zero, List.set_cons_succ]
    refine run_ok tok 400 _ _ ?_; simp only [↓reduceIte, run_opsNil, run_op, run_skip, run_seq, run_block, run_cond, run_exit, run_ret, run_region, run_drawn, dop, ev, ofV, ofLeaf, put, told, exitT, dBin, dLen, dBuiltin, pureP, pureO, tab, List.getD_cons_zero, List.getD_cons_succ, List.set_cons_zero, List.set_cons_succ, Option.map_some, true_and, List.map_cons, List.map_nil, Nat.lt_irrefl]
    simp only [decide_false, sel_false, Int.lt_irrefl]
    refine Out.of [] ?_
    simp (config := {contextual := true}) [outP, outOf, resL, idTo, noW, fstNodup, cV, cE, cL, cView, Ent.w]
theorem t12n (e m : Int) : Tri Try.prog 12 [.agg [.i64 e, .i64 m, .nils], .agg [.i64 e, .i64 m, .nils]] [] (.bool true) [] := by
  refine Tri.of tok Try.func12 rfl ?_; simp only [Try.ntmps12, Try.results12, List.length_cons, List.length_nil, Nat.reduceAdd, Nat.reduceSub, List.replicate_succ, List.replicate_zero, List.cons_append, List.nil_append]; refine run_ok tok 400 _ _ ?_; simp only [↓reduceIte, run_opsNil, run_op, run_skip, run_seq, run_cond, run_ret, run_region, dop, ev, ofV, ofLeaf, put, told, dBin, dFieldAddr, dBox, dLoad, newRow1, cellsOf, DV.leaf, Row.z, Row.n, Row.at, Ent.m, Ent.row, look, pureP, pureO, newP, tab, TK.agg, List.getD_cons_zero, List.getD_cons_succ, List.set_cons_zero, List.set_cons_succ, Option.map_some, Option.join_some, List.getElem?_cons_zero, List.getElem?_cons_succ, Bool.false_eq_true, true_and, and_true, List.length_cons, List.length_nil, Nat.reduceAdd, List.cons_append, List.nil_append, List.drop_zero, List.drop_succ_cons, List.take_zero, List.take_succ_cons, List.take_nil, List.headD_cons, List.all_cons, List.all_nil, Bool.and_self, Nat.reduceLeDiff, Nat.lt_add_one, or_true, Nat.add_zero, Nat.zero_add, reduceCtorEq]
  simp only [ne_eq, not_true_eq_false, decide_false, sel_false]
  refine D.call Try.func49 [] t49n ?_
  simp only [callP, callOk, wOk, jsOf, noW, fstNodup, allW, sig, renV, renE, renL, afterH, backH, capV, cV, cE, cL, cVs, cView, ev, Ent.w, put, List.lookup_nil, Bool.or_true, Bool.and_true, List.all_nil, List.getD_cons_zero, List.getD_cons_succ, List.set_cons_zero, List.set_cons_succ, List.length_cons, List.length_nil, List.drop_nil, List.map_cons, List.map_nil, List.append_nil, Nat.reduceAdd, Nat.zero_add, decide_true, true_and, and_self]
  refine run_ok tok 400 _ _ ?_; simp only [run_opsNil, run_op, run_skip, run_seq, run_cond, run_ret, run_region, dop, ev, ofV, ofLeaf, put, told, dUn, pureO, Bool.not_true, ↓sel_false, List.getD_cons_zero, List.getD_cons_succ, List.set_cons_zero, List.set_cons_succ, Option.map_some, true_and]
  refine Out.of [] ?_
  simp (config := {contextual := true}) [outP, outOf, resL, idTo, noW, fstNodup, cV, cE, cL, cView, Ent.w]
theorem t50n (k : Int) : Tri Try.prog 50 [.nils, .i64 k] [] (.i64 k) [] := by
  refine Tri.of tok Try.func50 rfl ?_; simp only [Try.ntmps50, Try.results50, List.length_cons, List.length_nil, Nat.reduceAdd, Nat.reduceSub, List.replicate_succ, List.replicate_zero, List.cons_append, List.nil_append]; refine run_ok tok 400 _ _ ?_; simp only [run_opsNil, run_op, run_seq, run_block, run_region, run_loop, dop, ev, ofV, ofLeaf, put, List.set_cons_zero, List.set_cons_succ, true_and]
  refine D.loopI (fun i : Nat => ⟨rg 34 [(0, .nils), (1, .i64 k), (5, .i64 0)], []⟩) (fun i => i = 0) (fun i => 0) 0 [] rfl ?_ ?_
  · simp [idTo, noW, fstNodup, cV, cE, cL, cVs, cView, Ent.w, lessP, rg, List.replicate_succ]
  · intro i hi
    simp only [rg, List.replicate_succ, List.replicate_zero, List.set_cons_zero, List.set_cons_succ]
    refine run_ok tok 400 _ _ ?_; simp only [↓reduceIte, run_opsNil, run_op, run_skip, run_seq, run_block, run_cond, run_exit, run_ret, run_region, dop, ev, put, told, exitT, dBin, dIndexAddr, dLen, dBuiltin, pureP, pureO, tab, List.getD_cons_zero, List.getD_cons_succ, List.set_cons_zero, List.set_cons_succ, Option.map_some, Option.map_none, true_and, List.map_cons, List.map_nil, Nat.lt_irrefl]
    simp only [decide_false, sel_false, Int.lt_irrefl]
    refine Out.of [] ?_
    simp (config := {contextual := true}) [outP, outOf, resL, idTo, noW, fstNodup, cV, cE, cL, cView, Ent.w]
theorem t51n (k : Int) : Tri Try.prog 51 [.nils, .i64 k] [] (.i64 k) [] := by
  refine Tri.of tok Try.func51 rfl ?_; simp only [Try.ntmps51, Try.results51, List.length_cons, List.length_nil, Nat.reduceAdd, Nat.reduceSub, List.replicate_succ, List.replicate_zero, List.cons_append, List.nil_append]; refine run_ok tok 400 _ _ ?_; simp only [run_opsNil, run_op, run_seq, run_block, run_region, run_loop, dop, ev, ofV, ofLeaf, put, List.set_cons_zero, List.set_cons_succ, true_and]
  refine D.loopI (fun i : Nat => ⟨rg 40 [(0, .nils), (1, .i64 k), (5, .i64 0)], []⟩) (fun i => i = 0) (fun i => 0) 0 [] rfl ?_ ?_
  · simp [idTo, noW, fstNodup, cV, cE, cL, cVs, cView, Ent.w, lessP, rg, List.replicate_succ]
  · intro i hi
    simp only [rg, List.replicate_succ, List.replicate_zero, List.set_cons_zero, List.set_cons_succ]
    refine run_ok tok 400 _ _ ?_; simp only [↓reduceIte, run_opsNil, run_op, run_skip, run_seq, run_block, run_cond, run_exit, run_ret, run_region, dop, ev, put, told, exitT, dBin, dIndexAddr, dLen, dBuiltin, pureP, pureO, tab, List.getD_cons_zero, List.getD_cons_succ, List.set_cons_zero, List.set_cons_succ, Option.map_some, Option.map_none, true_and, List.map_cons, List.map_nil, Nat.lt_irrefl]
    simp only [decide_false, sel_false, Int.lt_irrefl]
    refine Out.of [] ?_
    simp (config := {contextual := true}) [outP, outOf, resL, idTo, noW, fstNodup, cV, cE, cL, cView, Ent.w]
theorem t13n (e m k : Int) : Tri Try.prog 13 [.agg [.i64 e, .i64 m, .nils], .i64 k] [] (.i64 k) [] := by
  refine Tri.of tok Try.func13 rfl ?_; simp only [Try.ntmps13, Try.results13, List.length_cons, List.length_nil, Nat.reduceAdd, Nat.reduceSub, List.replicate_succ, List.replicate_zero, List.cons_append, List.nil_append]; refine run_ok tok 400 _ _ ?_; simp only [↓reduceIte, run_opsNil, run_op, run_seq, run_region, dop, ev, ofV, ofLeaf, put, dFieldAddr, dBox, dLoad, newRow1, cellsOf, DV.leaf, Row.z, Row.n, Row.at, Ent.m, Ent.row, look, pureP, pureO, newP, tab, TK.agg, List.getD_cons_zero, List.getD_cons_succ, List.set_cons_zero, List.set_cons_succ, Option.map_some, Option.join_some, List.getElem?_cons_zero, List.getElem?_cons_succ, Bool.false_eq_true, true_and, and_true, List.length_cons, List.length_nil, Nat.reduceAdd, List.nil_append, List.drop_zero, List.drop_succ_cons, List.take_succ_cons, List.take_nil, List.headD_cons, List.all_cons, List.all_nil, Bool.and_self, Nat.reduceLeDiff, Nat.lt_add_one, or_true, Nat.zero_add, reduceCtorEq]
  refine D.call Try.func50 [] (t50n k) ?_
  simp only [callP, callOk, wOk, jsOf, noW, fstNodup, allW, sig, renV, renE, renL, afterH, backH, capV, cV, cE, cL, cVs, cView, ev, Ent.w, put, List.lookup_nil, Bool.or_true, Bool.and_true, List.all_nil, List.getD_cons_zero, List.getD_cons_succ, List.set_cons_zero, List.set_cons_succ, List.length_cons, List.length_nil, List.drop_nil, List.map_cons, List.map_nil, List.append_nil, Nat.zero_add, decide_true, true_and, and_self]
  refine run_ok tok 400 _ _ ?_; simp only [run_opsNil, run_op, run_seq, run_ret, run_region, dop, ev, put, List.getD_cons_zero, List.getD_cons_succ, List.set_cons_zero, List.set_cons_succ, true_and]
  refine Out.of [] ?_
  simp (config := {contextual := true}) [outP, outOf, resL, idTo, noW, fstNodup, cV, cE, cL, cView, Ent.w]
theorem t14n (e m k : Int) (hk : 0 ≤ k) : Tri Try.prog 14 [.agg [.i64 e, .i64 m, .nils], .i64 k] [] (.i64 k) [] := by
  refine Tri.of tok Try.func14 rfl ?_; simp only [Try.ntmps14, Try.results14, List.length_cons, List.length_nil, Nat.reduceAdd, Nat.reduceSub, List.replicate_succ, List.replicate_zero, List.cons_append, List.nil_append]; refine run_ok tok 400 _ _ ?_; simp only [↓reduceIte, run_opsNil, run_op, run_seq, run_region, dop, ev, ofV, ofLeaf, put, dFieldAddr, dBox, dLoad, newRow1, cellsOf, DV.leaf, Row.z, Row.n, Row.at, Ent.m, Ent.row, look, pureP, pureO, newP, tab, TK.agg, List.getD_cons_zero, List.getD_cons_succ, List.set_cons_zero, List.set_cons_succ, Option.map_some, Option.join_some, List.getElem?_cons_zero, List.getElem?_cons_succ, Bool.false_eq_true, true_and, and_true, List.length_cons, List.length_nil, Nat.reduceAdd, List.nil_append, List.drop_zero, List.drop_succ_cons, List.take_succ_cons, List.take_nil, List.headD_cons, List.all_cons, List.all_nil, Bool.and_self, Nat.reduceLeDiff, Nat.lt_add_one, or_true, Nat.zero_add, reduceCtorEq]
  refine D.call Try.func51 [] (t51n k) ?_
  simp only [callP, callOk, wOk, jsOf, noW, fstNodup, allW, sig, renV, renE, renL, afterH, backH, capV, cV, cE, cL, cVs, cView, ev, Ent.w, put, List.lookup_nil, Bool.or_true, Bool.and_true, List.all_nil, List.getD_cons_zero, List.getD_cons_succ, List.set_cons_zero, List.set_cons_succ, List.length_cons, List.length_nil, List.drop_nil, List.map_cons, List.map_nil, List.append_nil, Nat.zero_add, decide_true, true_and, and_self, Int.reduceNeg]
  refine run_ok tok 400 _ _ ?_; simp only [↓reduceIte, run_opsNil, run_op, run_skip, run_seq, run_cond, run_ret, run_region, dop, ev, ofV, ofLeaf, put, told, dBin, pureP, List.getD_cons_zero, List.getD_cons_succ, List.set_cons_zero, List.set_cons_succ, Option.map_some, true_and]
  refine ⟨fun h => ?_, fun h => ?_⟩ <;> try simp only [decide_eq_true_eq, decide_eq_false_iff_not] at h
  · omega
  · refine Out.of [] ?_
    simp (config := {contextual := true}) [outP, outOf, resL, idTo, noW, fstNodup, cV, cE, cL, cView, Ent.w]
theorem okT_n {e m : Int} {n : Nat} {a b c : Nat → Int} (h : okT e m n a b c) : 0 < n := by have := h.2.2.1; omega
end Go.Proofs.YtaklcaejeaiagaaE
