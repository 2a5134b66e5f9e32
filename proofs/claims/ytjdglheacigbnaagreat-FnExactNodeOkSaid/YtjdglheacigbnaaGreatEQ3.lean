/- A part of the proof of a law of the given program: contracts of functions. No condition of its own. -/
import Derived.Test.YtjdglheacigbnaaGreatEQ2
namespace Go.Proofs.YtjdglheacigbnaaGreatE.R
open Go.Proofs
set_option maxRecDepth 100000
set_option maxHeartbeats 8000000 in
theorem t76 (k s c a o : Int) (x : ByteArray) (hw : wfC k s c a o x) (bb : Bool) (hbb : bb = true ↔ formC k s c a o x) : Tri Tryz.prog 76 [dvC k s c a o x] [] (.bool bb) [] := by
  have hk0 := wf0 hw.1
  obtain ⟨cl, hcl⟩ := bool_of ((0 ≤ s ∧ s ≤ 3) ∧ (1 ≤ c ∧ c ≤ 9999))
  refine Tri.of tok Tryz.func76 rfl ?_; simp only [Tryz.ntmps76, Tryz.results76, List.length_cons, List.length_nil, Nat.reduceAdd, Nat.reduceSub, List.replicate_succ, List.replicate_zero, List.cons_append, List.nil_append]; refine run_ok tok 6 _ _ ?_; simp only [run_zero, ↓reduceIte, run_opsNil, run_op, run_seq, run_region, dop, ev, ofV, ofLeaf, put, dBox, newRow1, cellsOf, DV.leaf, newP, List.getD_cons_zero, List.set_cons_zero, List.set_cons_succ, Option.map_some, true_and, List.length_cons, List.length_nil, Nat.reduceAdd, List.nil_append, List.all_cons, List.all_nil, Bool.and_self, Nat.zero_add]
  refine D.join (ι := Unit) (fun _ => ⟨rg 61 [(1, .ptr 0 0 0 0), (3, .bool cl)], [some (.one true (.lst 6 [[.i64 k, .i64 s, .i64 c, .i64 a, .i64 o, .str x]]))]⟩) (fun _ => True) ?_ ?_
  · refine run_ok tok 400 _ _ ?_; simp only [↓reduceIte, run_op, run_region, dop, ev, put, dFieldAddr, dLoad, Row.z, Row.n, Row.at, Ent.m, Ent.row, look, pureP, pureO, tab, TK.agg, List.getD_cons_zero, List.getD_cons_succ, List.set_cons_zero, List.set_cons_succ, Option.map_some, Option.join_some, List.getElem?_cons_zero, List.getElem?_cons_succ, Bool.false_eq_true, true_and, and_true, List.length_cons, List.length_nil, Nat.reduceAdd, List.drop_zero, List.drop_succ_cons, List.take_zero, List.take_succ_cons, List.headD_cons, Nat.reduceLeDiff, Nat.lt_add_one, or_true, Nat.zero_add, reduceCtorEq]
    refine D.call Tryz.func101 [] (t101 s) ?_; simp only [callP, callOk, wOk, jsOf, noW, fstNodup, allW, sig, renV, renE, renL, afterH, backH, capV, cV, cE, cL, cVs, cView, ev, Ent.w, put, List.lookup_nil, Bool.or_true, Bool.and_true, List.all_nil, List.getD_cons_zero, List.getD_cons_succ, List.set_cons_zero, List.set_cons_succ, List.length_cons, List.length_nil, List.drop_nil, List.map_cons, List.map_nil, List.append_nil, Nat.zero_add, decide_true, true_and, and_self]; refine run_ok tok 400 _ _ ?_; simp only [↓reduceIte, run_back, run_opsNil, run_op, run_opT, dop, ev, ofV, ofLeaf, put, yield, dFieldAddr, dLoad, Row.z, Row.n, Row.at, Ent.m, Ent.row, look, pureP, pureO, ↓sel_true, ↓sel_false, tab, TK.agg, List.getD_cons_zero, List.getD_cons_succ, List.set_cons_zero, List.set_cons_succ, Option.map_some, Option.bind_some, Option.join_some, List.getElem?_toArray, List.getElem?_cons_zero, List.getElem?_cons_succ, Bool.false_eq_true, true_and, and_true, List.length_cons, List.length_nil, Nat.reduceAdd, List.drop_zero, List.drop_succ_cons, List.take_zero, List.take_succ_cons, List.headD_cons, Nat.reduceLeDiff, Nat.lt_add_one, or_true, Nat.zero_add, reduceCtorEq]
    refine ⟨fun q => ?_, fun q => ?_⟩ <;> try simp only [decide_eq_true_eq, decide_eq_false_iff_not] at q
    · refine D.call Tryz.func102 [] (t102 c) ?_; simp only [callP, callOk, wOk, jsOf, noW, fstNodup, allW, sig, renV, renE, renL, afterH, backH, capV, cV, cE, cL, cVs, cView, ev, Ent.w, put, List.lookup_nil, Bool.or_true, Bool.and_true, List.all_nil, List.getD_cons_zero, List.getD_cons_succ, List.set_cons_zero, List.set_cons_succ, List.length_cons, List.length_nil, List.drop_nil, List.map_cons, List.map_nil, List.append_nil, Nat.zero_add, decide_true, true_and, and_self]; refine run_ok tok 400 _ _ ?_; simp only [↓reduceIte, run_back, run_opsNil, run_op, dop, ev, put, List.getD_cons_zero, List.getD_cons_succ, List.set_cons_zero, List.set_cons_succ, true_and]
      have hb := bb_eq (q := (1 ≤ c ∧ c ≤ 9999)) hcl (by omega)
      refine ⟨(), [(0, 0)], ?_⟩
      rw [hb]
      simp (config := {contextual := true}) [idTo, noW, fstNodup, cV, cE, cL, cLs, cVs, cView, cEnt, cRow, cEls, look, Row.z, Row.n, Row.at, Ent.w, Ent.m, Ent.row, lessP, rg, List.replicate_succ]
    · have hb := no_of hcl (by omega)
      refine ⟨(), [(0, 0)], ?_⟩
      rw [hb]
      simp (config := {contextual := true}) [idTo, noW, fstNodup, cV, cE, cL, cLs, cVs, cView, cEnt, cRow, cEls, look, Row.z, Row.n, Row.at, Ent.w, Ent.m, Ent.row, lessP, rg, List.replicate_succ]
  rintro _ _
  simp only [rg, List.replicate_succ, List.replicate_zero, List.set_cons_zero, List.set_cons_succ]
  refine run_ok tok 400 _ _ ?_; simp only [↓reduceIte, run_op, run_seq, run_block, run_region, dop, ev, put, dLoad, Row.z, Row.n, Row.at, Ent.m, Ent.row, look, pureP, tab, TK.agg, List.getD_cons_zero, List.getD_cons_succ, List.set_cons_zero, List.set_cons_succ, Option.map_some, Option.join_some, List.getElem?_cons_zero, true_and, and_true, List.length_cons, List.length_nil, List.drop_zero, List.take_succ_cons, List.take_nil, Nat.reduceLeDiff, Nat.lt_add_one, true_or, Nat.zero_add, Nat.reduceEqDiff]
  refine D.call Tryz.func115 [] (t115 k s c a o x) ?_; simp only [callP, callOk, wOk, jsOf, noW, fstNodup, allW, sig, renV, renE, renL, afterH, backH, capV, cV, cE, cL, cLs, cVs, cView, ev, Ent.w, put, List.lookup_nil, Bool.or_true, Bool.and_true, List.all_nil, List.getD_cons_zero, List.getD_cons_succ, List.set_cons_zero, List.set_cons_succ, List.length_cons, List.length_nil, List.drop_nil, List.map_cons, List.map_nil, List.append_nil, Nat.zero_add, decide_true, true_and, and_self]; refine run_ok tok 400 _ _ ?_; simp only [↓reduceIte, run_opsNil, run_op, run_opT, run_seq, run_cond, run_ret, run_region, dop, ev, ofV, ofLeaf, put, told, yield, dBin, dFieldAddr, dLen, dBuiltin, dLoad, dBuild, dFill, splice, cellsOf, DV.leaf, Row.z, Row.n, Row.at, Ent.m, Ent.row, look, pureP, pureO, ↓sel_true, ↓sel_false, tab, TK.agg, List.getD_cons_zero, List.getD_cons_succ, List.set_cons_zero, List.set_cons_succ, Option.map_some, Option.map_none, Option.bind_some, Option.join_some, List.getElem?_toArray, List.getElem?_cons_zero, List.getElem?_cons_succ, Bool.false_eq_true, true_and, and_true, List.length_cons, List.length_nil, Nat.reduceAdd, List.cons_append, List.nil_append, List.drop_zero, List.drop_succ_cons, List.take_zero, List.take_succ_cons, List.take_nil, List.headD_cons, List.map_cons, List.map_nil, List.all_cons, List.all_nil, Bool.and_self, Nat.reduceLeDiff, Nat.lt_add_one, or_true, true_or, Nat.add_zero, Nat.zero_add, reduceCtorEq, Nat.reduceEqDiff, Option.isSome_some]
  refine ⟨fun q0 => ?_, fun q0 => ?_⟩ <;> try simp only [decide_eq_true_eq, decide_eq_false_iff_not] at q0
  · refine D.op rfl (OpT.eqlS [.num .i64 k, .num .i64 s, .num .i64 c, .num .i64 a, .num .i64 o, .txt x] [.num .i64 k, .num .i64 0, .num .i64 0, .num .i64 0, .num .i64 0, .txt noT] (is42 hw) (is42 hk0) rfl rfl) ?_
    simp only [put, List.set_cons_zero, List.set_cons_succ]
    refine run_ok tok 400 _ _ ?_; simp only [run_opsNil, run_op, run_ret, dop, ev, put, List.getD_cons_zero, List.getD_cons_succ, List.set_cons_zero, List.set_cons_succ, true_and]
    have hb := bb_eq (q := [LV.num .i64 k, .num .i64 s, .num .i64 c, .num .i64 a, .num .i64 o, .txt x] = [LV.num .i64 k, .num .i64 0, .num .i64 0, .num .i64 0, .num .i64 0, .txt noT]) hbb (by rw [lv_eq]; unfold formC; omega)
    rw [hb]
    refine Out.of [] ?_; simp (config := {contextual := true}) [outP, outOf, resL, idTo, noW, fstNodup, cV, cE, cL, cView, Ent.w]
  refine ⟨fun q1 => ?_, fun q1 => ?_⟩ <;> try simp only [decide_eq_true_eq, decide_eq_false_iff_not] at q1
  · refine ⟨fun q2 => ?_, fun q2 => ?_⟩ <;> try simp only [Bool.not_eq_true', Bool.not_eq_false', decide_eq_true_eq, decide_eq_false_iff_not, Decidable.not_not, ne_eq, Bool.not_eq_true, Bool.not_eq_false] at q2
    · have h2 := hcl.1 q2
      refine ⟨fun q3 => ?_, fun q3 => ?_⟩ <;> try simp only [decide_eq_true_eq, decide_eq_false_iff_not] at q3
      · refine ⟨fun q4 => ?_, fun q4 => ?_⟩ <;> try simp only [decide_eq_true_eq, decide_eq_false_iff_not] at q4
        · have hb := bb_eq (q := ((x.size : Int) ≤ 160)) hbb (by unfold formC; omega)
          rw [hb]
          refine Out.of [] ?_; simp (config := {contextual := true}) [outP, outOf, resL, idTo, noW, fstNodup, cV, cE, cL, cView, Ent.w]
        · have hb := no_of hbb (by unfold formC; omega)
          refine Out.of [] ?_; simp (config := {contextual := true}) [outP, outOf, resL, idTo, noW, fstNodup, cV, cE, cL, cView, Ent.w, hb]
      · have hb := no_of hbb (by unfold formC; omega)
        refine Out.of [] ?_; simp (config := {contextual := true}) [outP, outOf, resL, idTo, noW, fstNodup, cV, cE, cL, cView, Ent.w, hb]
    · have h2 : ¬ ((0 ≤ s ∧ s ≤ 3) ∧ (1 ≤ c ∧ c ≤ 9999)) := fun h => by rw [hcl.2 h] at q2; cases q2
      have hb := no_of hbb (by unfold formC; omega)
      refine Out.of [] ?_; simp (config := {contextual := true}) [outP, outOf, resL, idTo, noW, fstNodup, cV, cE, cL, cView, Ent.w, hb]
  refine D.call Tryz.func43 [] (t43 k 2 7) ?_; simp only [callP, callOk, wOk, jsOf, noW, fstNodup, allW, sig, renV, renE, renL, afterH, backH, capV, cV, cE, cL, cVs, cView, ev, ofV, ofLeaf, Ent.w, put, List.lookup_nil, Bool.or_true, Bool.and_true, List.all_nil, List.getD_cons_zero, List.getD_cons_succ, List.set_cons_zero, List.set_cons_succ, List.length_cons, List.length_nil, List.drop_nil, List.map_cons, List.map_nil, List.append_nil, Nat.zero_add, decide_true, true_and, and_self]; refine run_ok tok 400 _ _ ?_; simp only [↓reduceIte, run_blk, run_opsNil, run_op, run_opT, run_skip, run_seq, run_cond, run_ret, run_region, dop, ev, ofV, ofLeaf, put, told, yield, dBin, dFieldAddr, dLoad, Row.z, Row.n, Row.at, Ent.m, Ent.row, look, pureP, pureO, ↓sel_true, ↓sel_false, tab, TK.agg, List.getD_cons_zero, List.getD_cons_succ, List.set_cons_zero, List.set_cons_succ, Option.map_some, Option.bind_some, Option.join_some, List.getElem?_toArray, List.getElem?_cons_zero, List.getElem?_cons_succ, Bool.false_eq_true, true_and, and_true, List.length_cons, List.length_nil, Nat.reduceAdd, List.drop_zero, List.drop_succ_cons, List.take_zero, List.take_succ_cons, List.take_nil, List.headD_cons, Nat.reduceLeDiff, Nat.lt_add_one, or_true, Nat.zero_add, reduceCtorEq]
  refine ⟨fun q2 => ?_, fun q2 => ?_⟩ <;> try simp only [decide_eq_true_eq, decide_eq_false_iff_not] at q2
  · refine ⟨fun q3 => ?_, fun q3 => ?_⟩ <;> try simp only [Bool.not_eq_true', Bool.not_eq_false', decide_eq_true_eq, decide_eq_false_iff_not, Decidable.not_not, ne_eq, Bool.not_eq_true, Bool.not_eq_false] at q3
    · have h2 := hcl.1 q3
      refine ⟨fun q4 => ?_, fun q4 => ?_⟩ <;> try simp only [decide_eq_true_eq, decide_eq_false_iff_not] at q4
      · have q4 := (emp x).1 q4
        refine D.call Tryz.func43 [] (t43 a 0 40) ?_; simp only [callP, callOk, wOk, jsOf, noW, fstNodup, allW, sig, renV, renE, renL, afterH, backH, capV, cV, cE, cL, cVs, cView, ev, ofV, ofLeaf, Ent.w, put, List.lookup_nil, Bool.or_true, Bool.and_true, List.all_nil, List.getD_cons_zero, List.getD_cons_succ, List.set_cons_zero, List.set_cons_succ, List.length_cons, List.length_nil, List.drop_nil, List.map_cons, List.map_nil, List.append_nil, Nat.zero_add, decide_true, true_and, and_self]; refine run_ok tok 400 _ _ ?_; simp only [↓reduceIte, run_opsNil, run_op, run_opT, run_ret, dop, ev, ofV, ofLeaf, put, yield, dFieldAddr, dLoad, Row.z, Row.n, Row.at, Ent.m, Ent.row, look, pureP, pureO, ↓sel_true, ↓sel_false, tab, TK.agg, List.getD_cons_zero, List.getD_cons_succ, List.set_cons_zero, List.set_cons_succ, Option.map_some, Option.bind_some, Option.join_some, List.getElem?_toArray, List.getElem?_cons_zero, List.getElem?_cons_succ, Bool.false_eq_true, true_and, and_true, List.length_cons, List.length_nil, Nat.reduceAdd, List.drop_zero, List.drop_succ_cons, List.take_zero, List.take_succ_cons, List.headD_cons, Nat.reduceLeDiff, Nat.lt_add_one, or_true, Nat.zero_add, reduceCtorEq]
        refine ⟨fun q5 => ?_, fun q5 => ?_⟩ <;> try simp only [decide_eq_true_eq, decide_eq_false_iff_not] at q5
        · refine D.call Tryz.func43 [] (t43 o 0 31) ?_; simp only [callP, callOk, wOk, jsOf, noW, fstNodup, allW, sig, renV, renE, renL, afterH, backH, capV, cV, cE, cL, cVs, cView, ev, ofV, ofLeaf, Ent.w, put, List.lookup_nil, Bool.or_true, Bool.and_true, List.all_nil, List.getD_cons_zero, List.getD_cons_succ, List.set_cons_zero, List.set_cons_succ, List.length_cons, List.length_nil, List.drop_nil, List.map_cons, List.map_nil, List.append_nil, Nat.zero_add, decide_true, true_and, and_self]; refine run_ok tok 400 _ _ ?_; simp only [↓reduceIte, run_opsNil, run_op, run_ret, dop, ev, put, List.getD_cons_zero, List.getD_cons_succ, List.set_cons_zero, List.set_cons_succ, true_and]
          have hb := bb_eq (q := (0 ≤ o ∧ o ≤ 31)) hbb (by unfold formC; omega)
          rw [hb]
          refine Out.of [] ?_; simp (config := {contextual := true}) [outP, outOf, resL, idTo, noW, fstNodup, cV, cE, cL, cView, Ent.w]
        · have hb := no_of hbb (by unfold formC; omega)
          refine Out.of [] ?_; simp (config := {contextual := true}) [outP, outOf, resL, idTo, noW, fstNodup, cV, cE, cL, cView, Ent.w, hb]
      · have q4 : ¬ x.size = 0 := fun h => q4 ((emp x).2 h)
        have hb := no_of hbb (by unfold formC; omega)
        refine Out.of [] ?_; simp (config := {contextual := true}) [outP, outOf, resL, idTo, noW, fstNodup, cV, cE, cL, cView, Ent.w, hb]
    · have h2 : ¬ ((0 ≤ s ∧ s ≤ 3) ∧ (1 ≤ c ∧ c ≤ 9999)) := fun h => by rw [hcl.2 h] at q3; cases q3
      have hb := no_of hbb (by unfold formC; omega)
      refine Out.of [] ?_; simp (config := {contextual := true}) [outP, outOf, resL, idTo, noW, fstNodup, cV, cE, cL, cView, Ent.w, hb]
  · have hb := no_of hbb (by unfold formC; omega)
    refine Out.of [] ?_; simp (config := {contextual := true}) [outP, outOf, resL, idTo, noW, fstNodup, cV, cE, cL, cView, Ent.w, hb]
end Go.Proofs.YtjdglheacigbnaaGreatE.R
