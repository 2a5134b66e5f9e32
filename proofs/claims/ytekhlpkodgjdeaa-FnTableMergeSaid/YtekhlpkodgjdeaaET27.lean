/- A part of the proof of a law of the given program: contracts of functions. No condition of its own. -/
import Derived.Test.YtekhlpkodgjdeaaET26
import Derived.Test.YtekhlpkodgjdeaaEP2
namespace Go.Proofs.YtekhlpkodgjdeaaE
open Go.Proofs
set_option maxRecDepth 100000
theorem D.lessS {P : Program} {n0 : Nat} {t : List Item} {s : St} {Qd : St → Prop} (S : St) (l : RL) (h0 : lessP n0 l s S) (h : D P n0 t S Qd) : D P n0 t s Qd :=
  fun μ0 H0 w0 e a w ha => h μ0 H0 w0 e a w (ha.less (by rw [e]; exact h0))
theorem sel_t {b : Bool} {p q : Prop} (h : b = true) : sel b p q = p := by rw [h, sel_true]
theorem sel_f {b : Bool} {p q : Prop} (h : b = false) : sel b p q = q := by rw [h, sel_false]
noncomputable def TT.okb (t : TT) : Bool := @decide t.ok (Classical.propDecidable _)
theorem okb_iff (t : TT) : t.okb = true ↔ okT t.e t.m t.n t.a t.b t.c := by simp only [TT.okb, decide_eq_true_eq]; exact Iff.rfl
theorem kp_ok {t : TT} (h : t.ok) {key : Int} : t.kp key = if t.idx key < 0 then -1 else t.c (t.idx key).toNat := by
  unfold TT.kp
  by_cases hk : 0 ≤ key ∧ key < 40
  · rw [if_pos ⟨h, hk⟩, if_neg (idx_in h hk)]
  · rw [if_neg (fun hh => hk hh.2), if_pos (by rw [idx_out h hk]; omega)]
theorem kp_no {t : TT} (h : ¬ t.ok) {key : Int} : t.kp key = -1 := by unfold TT.kp; rw [if_neg (fun hh => h hh.1)]
theorem t52 (k : Int) : Tri Try.prog 52 [.i64 k] [] (.bool (decide (0 ≤ k ∧ k ≤ 39))) [] := by
  refine Tri.of tok Try.func52 rfl ?_; simp only [Try.ntmps52, Try.results52, List.length_cons, List.length_nil, Nat.reduceAdd, Nat.reduceSub, List.replicate_succ, List.replicate_zero, List.cons_append, List.nil_append]; refine run_ok tok 400 _ _ ?_; simp only [run_opsNil, run_op, run_seq, run_region, dop, ev, ofV, ofLeaf, put, List.getD_cons_zero, List.set_cons_zero, List.set_cons_succ, true_and]
  refine D.call Try.func45 [] (t45 k 0 39) ?_; simp only [callP, callOk, wOk, noW, fstNodup, allW, sig, renV, renE, renL, afterH, backH, capV, cV, cE, cL, cVs, cView, ev, ofV, ofLeaf, Ent.w, put, Bool.or_true, Bool.and_true, List.all_nil, List.getD_cons_zero, List.getD_cons_succ, List.set_cons_zero, List.set_cons_succ, List.length_nil, List.drop_nil, List.map_cons, List.map_nil, List.append_nil, Nat.not_lt_zero, decide_true, decide_false, true_and, and_self]; refine run_ok tok 400 _ _ ?_; simp only [run_opsNil, run_op, run_ret, dop, ev, put, List.getD_cons_zero, List.getD_cons_succ, List.set_cons_zero, List.set_cons_succ, true_and]
  refine Out.of [] ?_; simp (config := {contextual := true}) [outP, outOf, resL, idTo, noW, fstNodup, cV, cE, cL, cView, Ent.w]
theorem t54 (t : TT) (p : Nat) (key : Int) (h : t.ok) : Tri Try.prog 54 [.agg [.i64 t.e, .i64 t.m, .sl 0 0 0 t.n p], .i64 key] [some (.one false (.arr 3 t.n (row3 t.a t.b t.c)))]
   (.i64 (t.kp key)) [some (.one false (.arr 3 t.n (row3 t.a t.b t.c)))] := by
  rw [kp_ok h]
  refine Tri.of tok Try.func54 rfl ?_; simp only [Try.ntmps54, Try.results54, List.length_cons, List.length_nil, Nat.reduceAdd, Nat.reduceSub, List.replicate_succ, List.replicate_zero, List.cons_append, List.nil_append]; refine run_ok tok 400 _ _ ?_; simp only [↓reduceIte, run_opsNil, run_op, run_seq, run_region, dop, ev, ofV, ofLeaf, put, dBox, dLoad, newRow1, cellsOf, DV.leaf, Row.z, Row.n, Row.at, Ent.m, Ent.row, look, pureP, newP, tab, TK.agg, List.getD_cons_zero, List.getD_cons_succ, List.set_cons_zero, List.set_cons_succ, Option.map_some, Option.join_some, List.getElem?_cons_zero, List.getElem?_cons_succ, true_and, and_true, List.length_cons, List.length_nil, Nat.reduceAdd, List.cons_append, List.nil_append, List.drop_zero, List.take_succ_cons, List.take_nil, List.all_cons, List.all_nil, Bool.and_self, Nat.reduceLeDiff, Nat.lt_add_one, true_or, Nat.zero_add, Nat.reduceEqDiff]
  refine D.call Try.func71 [(0, 0)] (t71 t.n p (TT.n8 h) t.e t.m key t.a t.b t.c (t.idx key) (t.idx_is key)) ?_; simp only [↓reduceIte, callP, callOk, wOk, jsOf, noW, fstNodup, allW, sig, renV, renE, renL, afterH, backH, capV, cV, cE, cL, cLs, cVs, cView, cEnt, cRow, ev, look, Row.z, Row.n, Row.at, Ent.w, Ent.m, Ent.row, put, List.lookup_nil, Bool.or_true, Bool.or_false, Bool.and_true, Bool.and_false, Bool.not_false, beq_self_eq_true, List.any_nil, List.all_cons, List.all_nil, List.getD_cons_zero, List.getD_cons_succ, List.set_cons_zero, List.set_cons_succ, List.getElem?_cons_zero, List.length_cons, List.length_nil, List.drop_succ_cons, List.drop_nil, List.map_cons, List.map_nil, List.append_nil, Option.join_some, Nat.reduceAdd, Nat.lt_add_one, Nat.zero_lt_succ, Nat.add_zero, Nat.zero_add, Nat.le_refl, decide_true, true_and, and_true, and_self, implies_true, imp_self, Bool.false_eq_true, Int.reduceNeg]; refine run_ok tok 400 _ _ ?_; simp only [↓reduceIte, run_opsNil, run_op, run_skip, run_seq, run_cond, run_ret, run_region, dop, ev, ofV, ofLeaf, put, told, dBin, dFieldAddr, dIndexAddr, dLoad, Row.z, Row.n, Row.at, Ent.m, Ent.row, look, pureP, pureO, tab, TK.agg, List.getD_cons_zero, List.getD_cons_succ, List.set_cons_zero, List.set_cons_succ, Option.map_some, Option.join_some, List.getElem?_cons_zero, List.getElem?_cons_succ, Bool.false_eq_true, true_and, and_true, List.length_cons, List.length_nil, Nat.reduceAdd, List.drop_zero, List.drop_succ_cons, List.take_succ_cons, List.take_nil, List.headD_cons, Nat.reduceLeDiff, Nat.lt_add_one, or_true, Nat.zero_add, reduceCtorEq]
  refine ⟨fun h1 => ?_, fun h1 => ?_⟩ <;> try simp only [decide_eq_true_eq, decide_eq_false_iff_not] at h1
  · refine Out.of [(0, 0)] ?_; simp (config := {contextual := true}) [outP, outOf, resL, idTo, noW, fstNodup, cV, cE, cL, cLs, cView, cEnt, cRow, look, Row.z, Row.n, Row.at, Ent.w, Ent.m, Ent.row, h1]
  · have h2 := ok_idx h h1
    refine ⟨⟨by omega, by omega⟩, by omega, ?_⟩
    refine Out.of [(0, 0)] ?_; simp (config := {contextual := true}) [outP, outOf, resL, idTo, noW, fstNodup, cV, cE, cL, cLs, cView, cEnt, cRow, look, Row.z, Row.n, Row.at, Ent.w, Ent.m, Ent.row, h1]
theorem t23 (t : TT) (p : Nat) (key : Int) (hn : t.n ≤ 1048576) : Tri Try.prog 23 [.agg [.i64 t.e, .i64 t.m, .sl 0 0 0 t.n p], .i64 key] [some (.one false (.arr 3 t.n (row3 t.a t.b t.c)))]
   (.i64 (t.kp key)) [some (.one false (.arr 3 t.n (row3 t.a t.b t.c)))] := by
  refine Tri.of tok Try.func23 rfl ?_; simp only [Try.ntmps23, Try.results23, List.length_cons, List.length_nil, Nat.reduceAdd, Nat.reduceSub, List.replicate_succ, List.replicate_zero, List.cons_append, List.nil_append]; refine run_ok tok 400 _ _ ?_; simp only [↓reduceIte, run_opsNil, run_op, run_seq, run_region, dop, ev, ofV, ofLeaf, put, dBox, dLoad, newRow1, cellsOf, DV.leaf, Row.z, Row.n, Row.at, Ent.m, Ent.row, look, pureP, newP, tab, TK.agg, List.getD_cons_zero, List.getD_cons_succ, List.set_cons_zero, List.set_cons_succ, Option.map_some, Option.join_some, List.getElem?_cons_zero, List.getElem?_cons_succ, true_and, and_true, List.length_cons, List.length_nil, Nat.reduceAdd, List.cons_append, List.nil_append, List.drop_zero, List.take_succ_cons, List.take_nil, List.all_cons, List.all_nil, Bool.and_self, Nat.reduceLeDiff, Nat.lt_add_one, true_or, Nat.zero_add, Nat.reduceEqDiff]
  refine D.call Try.func20 [(0, 0)] (t20 t.n p hn t.e t.m t.a t.b t.c t.okb (okb_iff t)) ?_; simp only [↓reduceIte, callP, callOk, wOk, jsOf, noW, fstNodup, allW, sig, renV, renE, renL, afterH, backH, capV, cV, cE, cL, cLs, cVs, cView, cEnt, cRow, ev, look, Row.z, Row.n, Row.at, Ent.w, Ent.m, Ent.row, put, List.lookup_nil, Bool.or_true, Bool.or_false, Bool.and_true, Bool.and_false, Bool.not_false, beq_self_eq_true, List.any_nil, List.all_cons, List.all_nil, List.getD_cons_zero, List.getD_cons_succ, List.set_cons_zero, List.set_cons_succ, List.getElem?_cons_zero, List.length_cons, List.length_nil, List.drop_succ_cons, List.drop_nil, List.map_cons, List.map_nil, List.append_nil, Option.join_some, Nat.reduceAdd, Nat.lt_add_one, Nat.zero_lt_succ, Nat.add_zero, Nat.zero_add, Nat.le_refl, decide_true, true_and, and_true, and_self, implies_true, imp_self, Bool.false_eq_true, Int.reduceNeg]; refine run_ok tok 400 _ _ ?_; simp only [↓reduceIte, run_opsNil, run_op, run_skip, run_seq, run_cond, run_ret, run_region, dop, ev, ofV, ofLeaf, put, told, dUn, dLoad, Row.z, Row.n, Row.at, Ent.m, Ent.row, look, pureP, pureO, tab, TK.agg, List.getD_cons_zero, List.getD_cons_succ, List.set_cons_zero, List.set_cons_succ, Option.map_some, Option.join_some, List.getElem?_cons_zero, List.getElem?_cons_succ, true_and, and_true, List.length_cons, List.length_nil, List.drop_zero, List.take_succ_cons, List.take_nil, Nat.reduceLeDiff, Nat.lt_add_one, true_or, Nat.zero_add, Nat.reduceEqDiff]
  refine ⟨fun h1 => ?_, fun h1 => ?_⟩ <;> try simp only [Bool.not_eq_true', Bool.not_eq_false'] at h1
  · have h2 : ¬ t.ok := fun hh => by rw [(okb_iff t).2 hh] at h1; cases h1
    refine Out.of [(0, 0)] ?_; simp (config := {contextual := true}) [outP, outOf, resL, idTo, noW, fstNodup, cV, cE, cL, cLs, cView, cEnt, cRow, look, Row.z, Row.n, Row.at, Ent.w, Ent.m, Ent.row, kp_no h2]
  · have h2 : t.ok := (okb_iff t).1 h1
    refine D.call Try.func54 [(0, 0)] (t54 t p key h2) ?_; simp only [↓reduceIte, callP, callOk, wOk, jsOf, noW, fstNodup, allW, sig, renV, renE, renL, afterH, backH, capV, cV, cE, cL, cLs, cVs, cView, cEnt, cRow, ev, look, Row.z, Row.n, Row.at, Ent.w, Ent.m, Ent.row, put, List.lookup_nil, Bool.or_true, Bool.or_false, Bool.and_true, Bool.and_false, Bool.not_false, beq_self_eq_true, List.any_nil, List.all_cons, List.all_nil, List.getD_cons_zero, List.getD_cons_succ, List.set_cons_zero, List.set_cons_succ, List.getElem?_cons_zero, List.length_cons, List.length_nil, List.drop_succ_cons, List.drop_nil, List.map_cons, List.map_nil, List.append_nil, Option.join_some, Nat.reduceAdd, Nat.lt_add_one, Nat.zero_lt_succ, Nat.add_zero, Nat.zero_add, Nat.le_refl, decide_true, true_and, and_true, and_self, implies_true, imp_self, Bool.false_eq_true]; refine run_ok tok 400 _ _ ?_; simp only [run_opsNil, run_op, run_ret, dop, ev, put, List.getD_cons_zero, List.getD_cons_succ, List.set_cons_zero, List.set_cons_succ, true_and]
    refine Out.of [(0, 0)] ?_; simp (config := {contextual := true}) [outP, outOf, resL, idTo, noW, fstNodup, cV, cE, cL, cLs, cView, cEnt, cRow, look, Row.z, Row.n, Row.at, Ent.w, Ent.m, Ent.row]
theorem t22 (t : TT) (p : Nat) (key : Int) (hn : t.n ≤ 1048576) : Tri Try.prog 22 [.agg [.i64 t.e, .i64 t.m, .sl 0 0 0 t.n p], .i64 key] [some (.one false (.arr 3 t.n (row3 t.a t.b t.c)))]
   (.i64 (t.kp key)) [some (.one false (.arr 3 t.n (row3 t.a t.b t.c)))] := by
  refine Tri.of tok Try.func22 rfl ?_; simp only [Try.ntmps22, Try.results22, List.length_cons, List.length_nil, Nat.reduceAdd, Nat.reduceSub, List.replicate_succ, List.replicate_zero, List.cons_append, List.nil_append]; refine run_ok tok 400 _ _ ?_; simp only [↓reduceIte, run_opsNil, run_op, run_seq, run_region, dop, ev, ofV, ofLeaf, put, dBox, dLoad, newRow1, cellsOf, DV.leaf, Row.z, Row.n, Row.at, Ent.m, Ent.row, look, pureP, newP, tab, TK.agg, List.getD_cons_zero, List.getD_cons_succ, List.set_cons_zero, List.set_cons_succ, Option.map_some, Option.join_some, List.getElem?_cons_zero, List.getElem?_cons_succ, true_and, and_true, List.length_cons, List.length_nil, Nat.reduceAdd, List.cons_append, List.nil_append, List.drop_zero, List.take_succ_cons, List.take_nil, List.all_cons, List.all_nil, Bool.and_self, Nat.reduceLeDiff, Nat.lt_add_one, true_or, Nat.zero_add, Nat.reduceEqDiff]
  refine D.call Try.func18 [(0, 0)] (t18 t.n p hn t.e t.m t.a t.b t.c t.okb (okb_iff t)) ?_; simp only [↓reduceIte, callP, callOk, wOk, jsOf, noW, fstNodup, allW, sig, renV, renE, renL, afterH, backH, capV, cV, cE, cL, cLs, cVs, cView, cEnt, cRow, ev, look, Row.z, Row.n, Row.at, Ent.w, Ent.m, Ent.row, put, List.lookup_nil, Bool.or_true, Bool.or_false, Bool.and_true, Bool.and_false, Bool.not_false, beq_self_eq_true, List.any_nil, List.all_cons, List.all_nil, List.getD_cons_zero, List.getD_cons_succ, List.set_cons_zero, List.set_cons_succ, List.getElem?_cons_zero, List.length_cons, List.length_nil, List.drop_succ_cons, List.drop_nil, List.map_cons, List.map_nil, List.append_nil, Option.join_some, Nat.reduceAdd, Nat.lt_add_one, Nat.zero_lt_succ, Nat.add_zero, Nat.zero_add, Nat.le_refl, decide_true, true_and, and_true, and_self, implies_true, imp_self, Bool.false_eq_true, Int.reduceNeg]; refine run_ok tok 400 _ _ ?_; simp only [↓reduceIte, run_opsNil, run_op, run_opF, run_seq, run_cond, run_ret, run_region, dop, ev, ofV, ofLeaf, put, told, yield, dUn, pureO, ↓sel_true, ↓sel_false, List.getD_cons_zero, List.getD_cons_succ, List.set_cons_zero, List.set_cons_succ, Option.map_some, Option.bind_some, List.getElem?_toArray, List.getElem?_cons_zero, List.getElem?_cons_succ, true_and]
  refine ⟨fun h1 => ?_, fun h1 => ?_⟩ <;> try simp only [Bool.not_eq_true', Bool.not_eq_false'] at h1
  · have h2 : ¬ t.ok := fun hh => by rw [(okb_iff t).2 hh] at h1; cases h1
    refine Out.of [(0, 0)] ?_; simp (config := {contextual := true}) [outP, outOf, resL, idTo, noW, fstNodup, cV, cE, cL, cLs, cView, cEnt, cRow, look, Row.z, Row.n, Row.at, Ent.w, Ent.m, Ent.row, kp_no h2]
  · have h2 : t.ok := (okb_iff t).1 h1
    refine D.call Try.func52 [] (t52 key) ?_; simp only [callP, callOk, wOk, jsOf, noW, fstNodup, allW, sig, renV, renE, renL, afterH, backH, capV, cV, cE, cL, cVs, cView, ev, Ent.w, put, List.lookup_nil, Bool.or_true, Bool.and_true, List.all_nil, List.getD_cons_zero, List.getD_cons_succ, List.set_cons_zero, List.set_cons_succ, List.length_cons, List.length_nil, List.drop_nil, List.map_cons, List.map_nil, List.append_nil, Nat.reduceAdd, Nat.zero_add, decide_true, true_and, and_self, Int.reduceNeg]; refine run_ok tok 400 _ _ ?_; simp only [↓reduceIte, run_opsNil, run_op, run_opF, run_skip, run_seq, run_cond, run_ret, run_region, run_drawn, dop, ev, ofV, ofLeaf, put, told, yield, dUn, pureO, ↓sel_false, List.getD_cons_zero, List.getD_cons_succ, List.set_cons_zero, List.set_cons_succ, Option.map_some, Option.bind_some, List.getElem?_toArray, List.getElem?_cons_zero, List.getElem?_cons_succ, Bool.false_eq_true, true_and]
    refine ⟨fun h3 => ?_, fun h3 => ?_⟩ <;> try simp only [Bool.not_eq_true', Bool.not_eq_false', decide_eq_true_eq, decide_eq_false_iff_not] at h3
    · have h4 := idx_out h2 (key := key) (by omega)
      refine Out.of [(0, 0)] ?_; simp (config := {contextual := true}) [outP, outOf, resL, idTo, noW, fstNodup, cV, cE, cL, cLs, cView, cEnt, cRow, look, Row.z, Row.n, Row.at, Ent.w, Ent.m, Ent.row, kp_ok h2, h4]
    · have h4 := idx_in h2 (key := key) (by omega)
      have h5 := ok_idx h2 h4
      refine D.draw1 (by rfl) [[], [0], [], [], [2, 3], [0, 1, 2, 3, 4], [0, 1, 2, 3, 4, 5], [0, 1, 2, 3, 4, 5, 6], [0, 1, 2, 3, 4, 5, 6, 7]] (by simp only [List.length_cons, List.length_nil, Nat.reduceAdd, Nat.reduceLeDiff]) ?_; refine runD_ok (A := [[], [0], [], [], [2, 3], [0, 1, 2, 3, 4], [0, 1, 2, 3, 4, 5], [0, 1, 2, 3, 4, 5, 6], [0, 1, 2, 3, 4, 5, 6, 7]]) (ws := []) (n0 := 2) tok 0 _ _ _ _ rfl ?_; simp only [runD_op, obl, newX, wokB, seenOpts, seenV, seenE, seenL, xOf, wX, Wof, upto, maskH, merge, mergeH, Ent.flag, allW, List.contains_nil, List.contains_cons, List.forall_mem_cons, List.not_mem_nil, false_implies, List.lookup_nil, Bool.or_false, Bool.and_true, Nat.sub_self, Nat.le_refl, beq_self_eq_true, implies_true, and_self, and_true, true_and, ↓reduceIte, dop, ev, put, dFieldAddr, dLoad, Row.z, Row.n, Row.at, Ent.w, Ent.m, Ent.row, look, pureP, pureO, tab, TK.agg, List.getD_cons_zero, List.getD_cons_succ, List.set_cons_zero, List.set_cons_succ, Option.map_some, Option.join_some, List.getElem?_cons_zero, List.getElem?_cons_succ, Bool.false_eq_true, true_and, and_true, List.length_cons, List.length_nil, Nat.reduceAdd, List.cons_append, List.nil_append, List.append_nil, List.drop_zero, List.drop_succ_cons, List.drop_nil, List.take_succ_cons, List.take_nil, List.headD_cons, List.map_nil, List.all_nil, Bool.and_true, Bool.and_self, Nat.zero_lt_succ, Nat.lt_add_one, or_true, true_or, Nat.zero_add, decide_true, reduceCtorEq, Nat.reduceEqDiff]
      refine Dr.call [[], [0], [], [], [2, 3], [0, 1, 2, 3, 4], [0, 1, 2, 3, 4, 5], [0, 1, 2, 3, 4, 5, 6], [0, 1, 2, 3, 4, 5, 6, 7]] [] 2 Try.func53 [(0, 0)] (t53 t.n p hn t.e t.m key t.a t.b t.c (t.idx key) (t.idx_is key)) ?_; simp only [↓reduceIte, callP, callOk, wOk, jsOf, noW, fstNodup, allW, sig, renV, renE, renL, afterH, backH, capV, cV, cE, cL, cLs, cVs, cView, cEnt, cRow, ev, look, Row.z, Row.n, Row.at, Ent.w, Ent.m, Ent.row, put, List.lookup_nil, Bool.or_true, Bool.or_false, Bool.and_true, Bool.and_false, Bool.not_false, beq_self_eq_true, List.any_nil, List.all_cons, List.all_nil, List.getD_cons_zero, List.getD_cons_succ, List.set_cons_zero, List.set_cons_succ, List.getElem?_cons_zero, List.length_cons, List.length_nil, List.drop_succ_cons, List.drop_nil, List.map_cons, List.map_nil, List.cons_append, List.nil_append, List.append_nil, Option.map_some, Option.join_some, Nat.reduceAdd, Nat.reduceBEq, Nat.lt_add_one, Nat.zero_lt_succ, Nat.add_zero, Nat.zero_add, Nat.le_refl, decide_true, true_and, and_true, and_self, implies_true, imp_self, Bool.false_eq_true, obl, newX, wokB, seenOpts, seenV, seenE, seenL, xOf, wX, Wof, upto, maskH, merge, mergeH, Ent.flag, allW, List.contains_nil, List.contains_cons, List.lookup_nil, Bool.or_false, Bool.or_true, Bool.and_true, Bool.and_false, Bool.not_false, Nat.reduceBEq, Nat.sub_self, Nat.le_refl, beq_self_eq_true, implies_true, and_self, and_true, true_and, ↓reduceIte, ev, put, Row.z, Row.n, Row.at, Ent.w, Ent.m, Ent.row, look, Bool.not_false, List.getD_cons_zero, List.getD_cons_succ, List.set_cons_zero, List.set_cons_succ, Option.map_some, Option.join_some, List.getElem?_cons_zero, Bool.false_eq_true, true_and, and_true, List.length_cons, List.length_nil, Nat.reduceAdd, List.cons_append, List.nil_append, List.append_nil, List.drop_succ_cons, List.drop_nil, List.map_cons, List.map_nil, List.all_cons, List.all_nil, Bool.and_true, Bool.and_self, Nat.zero_lt_succ, Nat.lt_add_one, Nat.add_zero, Nat.zero_add, decide_true]
      refine runD_ok (A := [[], [0], [], [], [2, 3], [0, 1, 2, 3, 4], [0, 1, 2, 3, 4, 5], [0, 1, 2, 3, 4, 5, 6], [0, 1, 2, 3, 4, 5, 6, 7]]) (ws := []) (n0 := 2) tok _ _ _ _ _ rfl ?_; simp only [runD_nil, runD_op, obl, newX, wokB, seenOpts, seenV, seenE, seenL, xOf, wX, Wof, maskH, merge, mergeH, Ent.flag, allW, List.contains_nil, List.contains_cons, List.lookup_nil, Bool.or_false, Bool.or_true, Bool.and_true, Nat.reduceBEq, Nat.le_refl, beq_self_eq_true, and_self, and_true, true_and, ↓reduceIte, dop, ev, put, dFieldAddr, dIndexAddr, dLoad, Row.z, Row.n, Row.at, Ent.w, Ent.m, Ent.row, look, pureP, pureO, tab, TK.agg, List.getD_cons_zero, List.getD_cons_succ, List.set_cons_zero, List.set_cons_succ, Option.map_some, Option.join_some, List.getElem?_cons_zero, List.getElem?_cons_succ, Bool.false_eq_true, true_and, and_true, List.length_cons, List.length_nil, Nat.reduceAdd, List.cons_append, List.nil_append, List.append_nil, List.drop_zero, List.drop_succ_cons, List.drop_nil, List.take_succ_cons, List.take_nil, List.headD_cons, List.map_nil, List.all_nil, Bool.and_true, Bool.and_self, Nat.zero_lt_succ, Nat.lt_add_one, or_true, Nat.zero_add, decide_true, reduceCtorEq]
      refine ⟨⟨by omega, by omega⟩, by omega, ?_⟩
      refine ⟨by rfl, ?_⟩
      refine run_ok tok 400 _ _ ?_; simp only [run_ret]
      refine Out.of [(0, 0)] ?_; simp (config := {contextual := true}) [outP, outOf, resL, idTo, noW, fstNodup, cV, cE, cL, cLs, cView, cEnt, cRow, look, Row.z, Row.n, Row.at, Ent.w, Ent.m, Ent.row, kp_ok h2, h4]
def TT.sh (t : TT) (o : Nat) : TT := ⟨t.e, t.m, t.n - o, fun i => t.a (i + o), fun i => t.b (i + o), fun i => t.c (i + o)⟩
set_option maxHeartbeats 2000000 in
theorem t7 (L0 : Nat) (_hL9 : L0 ≤ 9223372036854775807) (x : Nat → Int) (hx : ∀ i, i < L0 → 0 ≤ x i ∧ x i ≤ 255) : Tri Try.prog 7 [.sl 0 0 0 L0 0] [some (.one false (.arr 1 L0 (rowB x)))]
   (.bool true) [some (.one false (.arr 1 L0 (rowB x)))] := by
  obtain ⟨⟨R, p, o⟩, hR⟩ : ∃ s, anyT (LL L0) x 0 = s := ⟨_, rfl⟩
  obtain ⟨b1, b2, b3⟩ := drawn_b L0 x hx R p o hR
  refine Tri.of tok Try.func7 rfl ?_; simp only [Try.ntmps7, Try.results7, List.length_cons, List.length_nil, Nat.reduceAdd, Nat.reduceSub, List.replicate_succ, List.replicate_zero, List.cons_append, List.nil_append]; refine run_ok tok 400 _ _ ?_; simp only [↓reduceIte, run_opsNil, run_op, run_skip, run_seq, run_cond, run_ret, run_region, dop, ev, ofV, ofLeaf, put, told, dBin, dLen, dBuiltin, pureP, pureO, tab, List.getD_cons_zero, List.getD_cons_succ, List.set_cons_zero, List.set_cons_succ, Option.map_some, true_and, List.map_cons, List.map_nil]
  refine ⟨fun h => ?_, fun h => ?_⟩ <;> try simp only [decide_eq_true_eq, decide_eq_false_iff_not] at h
  · refine Out.of [(0, 0)] ?_; simp (config := {contextual := true}) [outP, outOf, resL, idTo, noW, fstNodup, cV, cE, cL, cLs, cView, cEnt, cRow, look, Row.z, Row.n, Row.at, Ent.w, Ent.m, Ent.row]
  refine D.call Try.func30 [(0, 0)] (t30 L0 0 x hx R p o hR) ?_; simp only [↓reduceIte, callP, callOk, wOk, jsOf, noW, fstNodup, allW, sig, sigma, renV, renE, renL, afterH, backH, Row.ren, Ent.ren, capV, cV, cE, cL, cLs, cVs, cView, cEnt, cRow, ev, look, Row.z, Row.n, Row.at, Ent.w, Ent.m, Ent.row, put, List.lookup_nil, Bool.or_true, Bool.or_false, Bool.and_true, Bool.and_false, Bool.not_false, beq_self_eq_true, List.any_nil, List.all_cons, List.all_nil, List.getD_cons_zero, List.getD_cons_succ, List.set_cons_zero, List.set_cons_succ, List.getElem?_cons_zero, List.length_cons, List.length_nil, List.drop_zero, List.drop_succ_cons, List.map_cons, List.map_nil, List.cons_append, List.nil_append, List.append_nil, Option.map_some, Option.join_some, Nat.reduceSub, Nat.lt_add_one, Nat.add_zero, Nat.zero_add, Nat.le_refl, decide_true, true_and, and_true, and_self, implies_true, imp_self, Bool.false_eq_true, Nat.lt_irrefl, Int.reduceNeg]; refine run_ok tok 400 _ _ ?_; simp only [↓reduceIte, run_opsNil, run_op, run_seq, run_region, dop, ev, put, dAlloc, dLoad, dStore, newRow1, splice, cellsOf, DV.leaf, Row.z, Row.n, Row.at, Row.upd, Ent.w, Ent.m, Ent.row, Ent.upd, look, pureP, newP, tab, TK.agg, List.getD_cons_zero, List.getD_cons_succ, List.set_cons_zero, List.set_cons_succ, Option.map_some, Option.join_some, List.getElem?_cons_zero, List.getElem?_cons_succ, true_and, and_true, List.length_cons, List.length_nil, Nat.reduceAdd, List.cons_append, List.nil_append, List.append_nil, List.drop_zero, List.drop_succ_cons, List.drop_nil, List.take_zero, List.take_succ_cons, List.take_nil, List.all_cons, List.all_nil, Bool.and_self, Nat.reduceLeDiff, Nat.zero_lt_succ, Nat.lt_add_one, true_or, Nat.zero_add, Nat.reduceEqDiff]
  have hTn : (R.sh o).n ≤ 8 := by simp only [TT.sh]; omega
  refine D.lessS ⟨rg 91 [(3, .ptr 2 0 0 0), (14, .agg [.i64 (R.sh o).e, .i64 (R.sh o).m, .sl 1 0 0 (R.sh o).n (R.sh o).n])], [some (.one false (.arr 1 L0 (rowB x))), some (.one false (.arr 3 (R.sh o).n (row3 (R.sh o).a (R.sh o).b (R.sh o).c))), some (.one true (.lst 3 [[.i64 (R.sh o).e, .i64 (R.sh o).m, .sl 1 0 0 (R.sh o).n (R.sh o).n]]))]⟩ [(0, 0), (1, o), (2, 0)] ?_ ?_
  · simp (config := {contextual := true}) [idTo, noW, fstNodup, cV, cE, cL, cLs, cVs, cView, cEnt, cRow, cEls, look, Row.z, Row.n, Row.at, Ent.w, Ent.m, Ent.row, lessP, rg, List.replicate_succ, TT.sh]
    intro i hi; omega
  generalize R.sh o = t at hTn ⊢
  simp only [rg, List.replicate_succ, List.replicate_zero, List.set_cons_zero, List.set_cons_succ]
  refine D.call Try.func18 [(1, 0)] (t18 t.n t.n (by omega) t.e t.m t.a t.b t.c t.okb (okb_iff t)) ?_; simp only [↓reduceIte, callP, callOk, wOk, jsOf, noW, fstNodup, allW, sig, renV, renE, renL, afterH, backH, capV, cV, cE, cL, cLs, cVs, cView, cEnt, cRow, ev, look, Row.z, Row.n, Row.at, Ent.w, Ent.m, Ent.row, put, List.lookup_nil, Bool.or_true, Bool.or_false, Bool.and_true, Bool.and_false, Bool.not_false, beq_self_eq_true, List.any_nil, List.all_cons, List.all_nil, List.getD_cons_zero, List.getD_cons_succ, List.set_cons_zero, List.set_cons_succ, List.getElem?_cons_zero, List.getElem?_cons_succ, List.length_cons, List.length_nil, List.drop_succ_cons, List.drop_nil, List.map_cons, List.map_nil, List.append_nil, Option.join_some, Nat.reduceAdd, Nat.reduceLT, Nat.lt_add_one, Nat.add_zero, Nat.zero_add, Nat.le_refl, decide_true, true_and, and_true, and_self, implies_true, imp_self, Bool.false_eq_true, Int.reduceNeg]; refine run_ok tok 400 _ _ ?_; simp only [↓reduceIte, run_opsNil, run_op, run_seq, run_region, dop, ev, put, dLoad, Row.z, Row.n, Row.at, Ent.m, Ent.row, look, pureP, tab, TK.agg, List.getD_cons_zero, List.getD_cons_succ, List.set_cons_zero, List.set_cons_succ, Option.map_some, Option.join_some, List.getElem?_cons_zero, List.getElem?_cons_succ, true_and, and_true, List.length_cons, List.length_nil, List.drop_zero, List.take_succ_cons, List.take_nil, Nat.reduceLeDiff, Nat.lt_add_one, true_or, Nat.zero_add, Nat.reduceEqDiff]
  refine D.call Try.func20 [(1, 0)] (t20 t.n t.n (by omega) t.e t.m t.a t.b t.c t.okb (okb_iff t)) ?_; simp only [↓reduceIte, callP, callOk, wOk, jsOf, noW, fstNodup, allW, sig, renV, renE, renL, afterH, backH, capV, cV, cE, cL, cLs, cVs, cView, cEnt, cRow, ev, look, Row.z, Row.n, Row.at, Ent.w, Ent.m, Ent.row, put, List.lookup_nil, Bool.or_true, Bool.or_false, Bool.and_true, Bool.and_false, Bool.not_false, beq_self_eq_true, List.any_nil, List.all_cons, List.all_nil, List.getD_cons_zero, List.getD_cons_succ, List.set_cons_zero, List.set_cons_succ, List.getElem?_cons_zero, List.getElem?_cons_succ, List.length_cons, List.length_nil, List.drop_succ_cons, List.drop_nil, List.map_cons, List.map_nil, List.append_nil, Option.join_some, Nat.reduceAdd, Nat.reduceLT, Nat.lt_add_one, Nat.add_zero, Nat.zero_add, Nat.le_refl, decide_true, true_and, and_true, and_self, implies_true, imp_self, Bool.false_eq_true, Int.reduceNeg]; refine run_ok tok 400 _ _ ?_; simp only [run_opsNil, run_op, run_skip, run_seq, run_block, run_cond, run_ret, run_region, run_loop, dop, ev, ofV, ofLeaf, put, told, pureP, tab, List.getD_cons_zero, List.getD_cons_succ, List.set_cons_zero, List.set_cons_succ, Option.map_some, true_and, dBinB]
  simp only [sel_false, beq_self_eq_true, Bool.not_true]
  refine D.loopI (fun j : Nat => ⟨rg 91 [(3, .ptr 2 0 0 0), (4, .bool t.okb), (5, .i64 ((j : Int) - 1))], [some (.one false (.arr 1 L0 (rowB x))), some (.one false (.arr 3 t.n (row3 t.a t.b t.c))), some (.one true (.lst 3 [[.i64 t.e, .i64 t.m, .sl 1 0 0 t.n t.n]]))]⟩) (fun j => j ≤ 42) (fun j => 42 - j) 0 [(0, 0), (1, 0), (2, 0)] (by omega) ?_ ?_
  · simp (config := {contextual := true}) [idTo, noW, fstNodup, cV, cE, cL, cLs, cVs, cView, cEnt, cRow, cEls, look, Row.z, Row.n, Row.at, Ent.w, Ent.m, Ent.row, lessP, rg, List.replicate_succ]
  · intro j hj
    simp only [rg, List.replicate_succ, List.replicate_zero, List.set_cons_zero, List.set_cons_succ]
    refine run_ok tok 400 _ _ ?_; simp only [↓reduceIte, run_opsNil, run_op, run_skip, run_seq, run_block, run_cond, run_exit, run_ret, run_region, dop, ev, ofV, ofLeaf, put, told, exitT, dBin, dLoad, Row.z, Row.n, Row.at, Ent.m, Ent.row, look, pureP, tab, TK.agg, List.getD_cons_zero, List.getD_cons_succ, List.set_cons_zero, List.set_cons_succ, Option.map_some, Option.join_some, List.getElem?_cons_zero, List.getElem?_cons_succ, true_and, and_true, List.length_cons, List.length_nil, List.drop_zero, List.take_succ_cons, List.take_nil, Nat.reduceLeDiff, Nat.lt_add_one, true_or, Nat.zero_add, Nat.reduceEqDiff]
    refine ⟨fun h6 => ?_, fun h6 => ?_⟩ <;> try simp only [decide_eq_true_eq, decide_eq_false_iff_not] at h6
    · refine D.call Try.func23 [(1, 0)] (t23 t t.n ((j : Int) - 1) (by omega)) ?_; simp only [↓reduceIte, callP, callOk, wOk, jsOf, noW, fstNodup, allW, sig, renV, renE, renL, afterH, backH, capV, cV, cE, cL, cLs, cVs, cView, cEnt, cRow, ev, look, Row.z, Row.n, Row.at, Ent.w, Ent.m, Ent.row, put, List.lookup_nil, Bool.or_true, Bool.or_false, Bool.and_true, Bool.and_false, Bool.not_false, beq_self_eq_true, List.any_nil, List.all_cons, List.all_nil, List.getD_cons_zero, List.getD_cons_succ, List.set_cons_zero, List.set_cons_succ, List.getElem?_cons_zero, List.getElem?_cons_succ, List.length_cons, List.length_nil, List.drop_succ_cons, List.drop_nil, List.map_cons, List.map_nil, List.append_nil, Option.join_some, Nat.reduceAdd, Nat.reduceLT, Nat.lt_add_one, Nat.add_zero, Nat.zero_add, Nat.le_refl, decide_true, true_and, and_true, and_self, implies_true, imp_self, Bool.false_eq_true]; refine run_ok tok 400 _ _ ?_; simp only [↓reduceIte, run_opsNil, run_op, run_seq, run_region, dop, ev, put, dLoad, Row.z, Row.n, Row.at, Ent.m, Ent.row, look, pureP, tab, TK.agg, List.getD_cons_zero, List.getD_cons_succ, List.set_cons_zero, List.set_cons_succ, Option.map_some, Option.join_some, List.getElem?_cons_zero, List.getElem?_cons_succ, true_and, and_true, List.length_cons, List.length_nil, List.drop_zero, List.take_succ_cons, List.take_nil, Nat.reduceLeDiff, Nat.lt_add_one, true_or, Nat.zero_add, Nat.reduceEqDiff]
      refine D.call Try.func22 [(1, 0)] (t22 t t.n ((j : Int) - 1) (by omega)) ?_; simp only [↓reduceIte, callP, callOk, wOk, jsOf, noW, fstNodup, allW, sig, renV, renE, renL, afterH, backH, capV, cV, cE, cL, cLs, cVs, cView, cEnt, cRow, ev, look, Row.z, Row.n, Row.at, Ent.w, Ent.m, Ent.row, put, List.lookup_nil, Bool.or_true, Bool.or_false, Bool.and_true, Bool.and_false, Bool.not_false, beq_self_eq_true, List.any_nil, List.all_cons, List.all_nil, List.getD_cons_zero, List.getD_cons_succ, List.set_cons_zero, List.set_cons_succ, List.getElem?_cons_zero, List.getElem?_cons_succ, List.length_cons, List.length_nil, List.drop_succ_cons, List.drop_nil, List.map_cons, List.map_nil, List.append_nil, Option.join_some, Nat.reduceAdd, Nat.reduceLT, Nat.lt_add_one, Nat.add_zero, Nat.zero_add, Nat.le_refl, decide_true, true_and, and_true, and_self, implies_true, imp_self, Bool.false_eq_true]; refine run_ok tok 400 _ _ ?_; simp only [↓reduceIte, run_opsNil, run_op, run_opT, run_opF, run_skip, run_seq, run_block, run_cond, run_ret, run_region, run_loop, dop, ev, ofV, ofLeaf, put, told, yield, dBin, pureP, ↓sel_true, ↓sel_false, tab, List.getD_cons_zero, List.getD_cons_succ, List.set_cons_zero, List.set_cons_succ, Option.map_some, Option.bind_some, List.getElem?_toArray, List.getElem?_cons_zero, List.getElem?_cons_succ, Bool.false_eq_true, true_and, dBinB]
      simp only [ne_eq, not_true_eq_false, decide_false, sel_false]
      have hkp := kp_nn (t := t) (key := (j : Int) - 1)
      have hbb := okb_iff t
      have four : (t.okb = true ∧ 0 ≤ (j : Int) - 1 ∧ (j : Int) - 1 < 40 ∧ 0 ≤ t.kp ((j : Int) - 1)) ∨ (t.okb = false ∧ ¬ 0 ≤ t.kp ((j : Int) - 1)) ∨ (t.okb = true ∧ ¬ 0 ≤ (j : Int) - 1 ∧ ¬ 0 ≤ t.kp ((j : Int) - 1)) ∨ (t.okb = true ∧ 0 ≤ (j : Int) - 1 ∧ ¬ (j : Int) - 1 < 40 ∧ ¬ 0 ≤ t.kp ((j : Int) - 1)) := by
        by_cases c1 : t.ok
        · have c2 : t.okb = true := hbb.2 c1
          by_cases c3 : 0 ≤ (j : Int) - 1
          · by_cases c4 : (j : Int) - 1 < 40
            · exact .inl ⟨c2, c3, c4, hkp.2 ⟨c1, c3, c4⟩⟩
            · exact .inr (.inr (.inr ⟨c2, c3, c4, fun hh => c4 (hkp.1 hh).2.2⟩))
          · exact .inr (.inr (.inl ⟨c2, c3, fun hh => c3 (hkp.1 hh).2.1⟩))
        · exact .inr (.inl ⟨no_of hbb c1, fun hh => c1 (hkp.1 hh).1⟩)
      have hc : ∀ i, i < t.n → t.a i ≤ (j : Int) - 1 → (j : Int) - 1 < t.b i → 0 ≤ t.kp ((j : Int) - 1) → t.c i = t.kp ((j : Int) - 1) := fun i hi h1 h2 h3 => (kp_at (hkp.1 h3).1 hi ⟨h1, h2⟩).symm
      have hn1 : 0 ≤ t.kp ((j : Int) - 1) → cntF t.a t.b ((j : Int) - 1) t.n = 1 := fun h3 => cnt_all (hkp.1 h3).1 (hkp.1 h3).2
      have hwj2 : IntKind.i64.wrap (j : Int) = (j : Int) := by rw [IntKind.wrap_i64]; omega
      have hwj : IntKind.i64.wrap ((j : Int) - 1 + 1) = ((j + 1 : Nat) : Int) - 1 := by rw [IntKind.wrap_i64]; omega
      rcases four with ⟨d1, d2, d3, d4⟩ | ⟨d1, d4⟩ | ⟨d1, d2, d4⟩ | ⟨d1, d2, d3, d4⟩
      · rw [sel_t d1, sel_t (by simpa using d2), sel_f (by simp [d3, d4])]
        refine D.loopI (fun i : Nat => ⟨rg 91 [(3, .ptr 2 0 0 0), (4, .bool t.okb), (5, .i64 ((j : Int) - 1)), (6, .i64 (t.kp ((j : Int) - 1))), (7, .i64 (cntF t.a t.b ((j : Int) - 1) i)), (8, .i64 i)], [some (.one false (.arr 1 L0 (rowB x))), some (.one false (.arr 3 t.n (row3 t.a t.b t.c))), some (.one true (.lst 3 [[.i64 t.e, .i64 t.m, .sl 1 0 0 t.n t.n]]))]⟩) (fun i => i ≤ t.n) (fun i => t.n - i) 0 [(0, 0), (1, 0), (2, 0)] (Nat.zero_le _) ?_ ?_
        · simp (config := {contextual := true}) [idTo, noW, fstNodup, cV, cE, cL, cLs, cVs, cView, cEnt, cRow, cEls, look, Row.z, Row.n, Row.at, Ent.w, Ent.m, Ent.row, lessP, rg, List.replicate_succ, cntF]
        · intro i hi
          have hcn := cnt_le t.a t.b ((j : Int) - 1) i
          simp only [rg, List.replicate_succ, List.replicate_zero, List.set_cons_zero, List.set_cons_succ]
          refine run_ok tok 400 _ _ ?_; simp only [↓reduceIte, run_blk, run_back, run_opsNil, run_op, run_opT, run_skip, run_seq, run_block, run_cond, run_exit, run_ret, run_region, dop, ev, ofV, ofLeaf, put, told, yield, exitT, dBin, dFieldAddr, dIndexAddr, dLen, dBuiltin, dLoad, Row.z, Row.n, Row.at, Ent.m, Ent.row, look, pureP, pureO, ↓sel_true, ↓sel_false, tab, TK.agg, List.getD_cons_zero, List.getD_cons_succ, List.set_cons_zero, List.set_cons_succ, Option.map_some, Option.bind_some, Option.join_some, List.getElem?_toArray, List.getElem?_cons_zero, List.getElem?_cons_succ, Bool.false_eq_true, true_and, and_true, List.length_cons, List.length_nil, Nat.reduceAdd, List.drop_zero, List.drop_succ_cons, List.take_zero, List.take_succ_cons, List.take_nil, List.headD_cons, List.map_cons, List.map_nil, Nat.reduceLeDiff, Nat.lt_add_one, or_true, Nat.add_zero, Nat.zero_add, Int.toNat_natCast, reduceCtorEq]
          refine ⟨fun g1 => ?_, fun g1 => ?_⟩ <;> try simp only [decide_eq_true_eq, decide_eq_false_iff_not] at g1
          · have hwi : IntKind.i64.wrap ((i : Int) + 1) = ((i + 1 : Nat) : Int) := by rw [IntKind.wrap_i64]; omega
            have hwc : IntKind.i64.wrap (((cntF t.a t.b ((j : Int) - 1) i : Nat) : Int) + 1) = ((cntF t.a t.b ((j : Int) - 1) i + 1 : Nat) : Int) := by rw [IntKind.wrap_i64]; omega
            refine ⟨⟨by omega, by omega⟩, by omega, ?_⟩
            refine ⟨fun g2 => ?_, fun g2 => ?_⟩ <;> try simp only [decide_eq_true_eq, decide_eq_false_iff_not] at g2
            · refine ⟨⟨by omega, by omega⟩, by omega, ?_⟩
              refine ⟨fun g3 => ?_, fun g3 => ?_⟩ <;> try simp only [decide_eq_true_eq, decide_eq_false_iff_not] at g3
              · refine ⟨fun g4 => ?_, fun g4 => ?_⟩ <;> try simp only [decide_eq_true_eq, decide_eq_false_iff_not] at g4
                · refine ⟨⟨by omega, by omega⟩, by omega, ?_⟩
                  refine ⟨fun g5 => ?_, fun g5 => ?_⟩ <;> try simp only [decide_eq_true_eq, decide_eq_false_iff_not, Decidable.not_not, ne_eq] at g5
                  · exact absurd (hc i (by omega) g2 g3 g4) g5
                  · have hcc : cntF t.a t.b ((j : Int) - 1) (i + 1) = cntF t.a t.b ((j : Int) - 1) i + 1 := by simp only [cntF]; rw [if_pos ⟨g2, g3⟩]
                    refine ⟨i + 1, [(0, 0), (1, 0), (2, 0)], by omega, by omega, ?_⟩
                    rw [hcc]
                    simp (config := {contextual := true}) [idTo, noW, fstNodup, cV, cE, cL, cLs, cVs, cView, cEnt, cRow, cEls, look, Row.z, Row.n, Row.at, Ent.w, Ent.m, Ent.row, lessP, hwi, hwc]
                · have hcc : cntF t.a t.b ((j : Int) - 1) (i + 1) = cntF t.a t.b ((j : Int) - 1) i + 1 := by simp only [cntF]; rw [if_pos ⟨g2, g3⟩]
                  refine ⟨i + 1, [(0, 0), (1, 0), (2, 0)], by omega, by omega, ?_⟩
                  rw [hcc]
                  simp (config := {contextual := true}) [idTo, noW, fstNodup, cV, cE, cL, cLs, cVs, cView, cEnt, cRow, cEls, look, Row.z, Row.n, Row.at, Ent.w, Ent.m, Ent.row, lessP, hwi, hwc]
              · have hcc : cntF t.a t.b ((j : Int) - 1) (i + 1) = cntF t.a t.b ((j : Int) - 1) i := by simp only [cntF]; rw [if_neg fun hh => g3 hh.2]; rfl
                refine ⟨i + 1, [(0, 0), (1, 0), (2, 0)], by omega, by omega, ?_⟩
                rw [hcc]
                simp (config := {contextual := true}) [idTo, noW, fstNodup, cV, cE, cL, cLs, cVs, cView, cEnt, cRow, cEls, look, Row.z, Row.n, Row.at, Ent.w, Ent.m, Ent.row, lessP, hwi]
            · have hcc : cntF t.a t.b ((j : Int) - 1) (i + 1) = cntF t.a t.b ((j : Int) - 1) i := by simp only [cntF]; rw [if_neg fun hh => g2 hh.1]; rfl
              refine ⟨i + 1, [(0, 0), (1, 0), (2, 0)], by omega, by omega, ?_⟩
              rw [hcc]
              simp (config := {contextual := true}) [idTo, noW, fstNodup, cV, cE, cL, cLs, cVs, cView, cEnt, cRow, cEls, look, Row.z, Row.n, Row.at, Ent.w, Ent.m, Ent.row, lessP, hwi]
          · obtain rfl : i = t.n := by omega
            refine ⟨fun g4 => ?_, fun g4 => ?_⟩ <;> try simp only [decide_eq_true_eq, decide_eq_false_iff_not] at g4
            · have := hn1 g4
              refine ⟨fun g5 => ?_, fun g5 => ?_⟩ <;> try simp only [decide_eq_true_eq, decide_eq_false_iff_not, Decidable.not_not, ne_eq] at g5
              · omega
              · refine ⟨j + 1, [(0, 0), (1, 0), (2, 0)], by omega, by omega, ?_⟩
                simp (config := {contextual := true}) [idTo, noW, fstNodup, cV, cE, cL, cLs, cVs, cView, cEnt, cRow, cEls, look, Row.z, Row.n, Row.at, Ent.w, Ent.m, Ent.row, lessP, hwj2]
            · refine ⟨j + 1, [(0, 0), (1, 0), (2, 0)], by omega, by omega, ?_⟩
              simp (config := {contextual := true}) [idTo, noW, fstNodup, cV, cE, cL, cLs, cVs, cView, cEnt, cRow, cEls, look, Row.z, Row.n, Row.at, Ent.w, Ent.m, Ent.row, lessP, hwj2]
      · rw [sel_f d1, sel_f (by simp [d4])]
        refine D.loopI (fun i : Nat => ⟨rg 91 [(3, .ptr 2 0 0 0), (4, .bool t.okb), (5, .i64 ((j : Int) - 1)), (6, .i64 (t.kp ((j : Int) - 1))), (7, .i64 (cntF t.a t.b ((j : Int) - 1) i)), (8, .i64 i)], [some (.one false (.arr 1 L0 (rowB x))), some (.one false (.arr 3 t.n (row3 t.a t.b t.c))), some (.one true (.lst 3 [[.i64 t.e, .i64 t.m, .sl 1 0 0 t.n t.n]]))]⟩) (fun i => i ≤ t.n) (fun i => t.n - i) 0 [(0, 0), (1, 0), (2, 0)] (Nat.zero_le _) ?_ ?_
        · simp (config := {contextual := true}) [idTo, noW, fstNodup, cV, cE, cL, cLs, cVs, cView, cEnt, cRow, cEls, look, Row.z, Row.n, Row.at, Ent.w, Ent.m, Ent.row, lessP, rg, List.replicate_succ, cntF]
        · intro i hi
          have hcn := cnt_le t.a t.b ((j : Int) - 1) i
          simp only [rg, List.replicate_succ, List.replicate_zero, List.set_cons_zero, List.set_cons_succ]
          refine run_ok tok 400 _ _ ?_; simp only [↓reduceIte, run_blk, run_back, run_opsNil, run_op, run_opT, run_skip, run_seq, run_block, run_cond, run_exit, run_ret, run_region, dop, ev, ofV, ofLeaf, put, told, yield, exitT, dBin, dFieldAddr, dIndexAddr, dLen, dBuiltin, dLoad, Row.z, Row.n, Row.at, Ent.m, Ent.row, look, pureP, pureO, ↓sel_true, ↓sel_false, tab, TK.agg, List.getD_cons_zero, List.getD_cons_succ, List.set_cons_zero, List.set_cons_succ, Option.map_some, Option.bind_some, Option.join_some, List.getElem?_toArray, List.getElem?_cons_zero, List.getElem?_cons_succ, Bool.false_eq_true, true_and, and_true, List.length_cons, List.length_nil, Nat.reduceAdd, List.drop_zero, List.drop_succ_cons, List.take_zero, List.take_succ_cons, List.take_nil, List.headD_cons, List.map_cons, List.map_nil, Nat.reduceLeDiff, Nat.lt_add_one, or_true, Nat.add_zero, Nat.zero_add, Int.toNat_natCast, reduceCtorEq]
          refine ⟨fun g1 => ?_, fun g1 => ?_⟩ <;> try simp only [decide_eq_true_eq, decide_eq_false_iff_not] at g1
          · have hwi : IntKind.i64.wrap ((i : Int) + 1) = ((i + 1 : Nat) : Int) := by rw [IntKind.wrap_i64]; omega
            have hwc : IntKind.i64.wrap (((cntF t.a t.b ((j : Int) - 1) i : Nat) : Int) + 1) = ((cntF t.a t.b ((j : Int) - 1) i + 1 : Nat) : Int) := by rw [IntKind.wrap_i64]; omega
            refine ⟨⟨by omega, by omega⟩, by omega, ?_⟩
            refine ⟨fun g2 => ?_, fun g2 => ?_⟩ <;> try simp only [decide_eq_true_eq, decide_eq_false_iff_not] at g2
            · refine ⟨⟨by omega, by omega⟩, by omega, ?_⟩
              refine ⟨fun g3 => ?_, fun g3 => ?_⟩ <;> try simp only [decide_eq_true_eq, decide_eq_false_iff_not] at g3
              · refine ⟨fun g4 => ?_, fun g4 => ?_⟩ <;> try simp only [decide_eq_true_eq, decide_eq_false_iff_not] at g4
                · refine ⟨⟨by omega, by omega⟩, by omega, ?_⟩
                  refine ⟨fun g5 => ?_, fun g5 => ?_⟩ <;> try simp only [decide_eq_true_eq, decide_eq_false_iff_not, Decidable.not_not, ne_eq] at g5
                  · exact absurd (hc i (by omega) g2 g3 g4) g5
                  · have hcc : cntF t.a t.b ((j : Int) - 1) (i + 1) = cntF t.a t.b ((j : Int) - 1) i + 1 := by simp only [cntF]; rw [if_pos ⟨g2, g3⟩]
                    refine ⟨i + 1, [(0, 0), (1, 0), (2, 0)], by omega, by omega, ?_⟩
                    rw [hcc]
                    simp (config := {contextual := true}) [idTo, noW, fstNodup, cV, cE, cL, cLs, cVs, cView, cEnt, cRow, cEls, look, Row.z, Row.n, Row.at, Ent.w, Ent.m, Ent.row, lessP, hwi, hwc]
                · have hcc : cntF t.a t.b ((j : Int) - 1) (i + 1) = cntF t.a t.b ((j : Int) - 1) i + 1 := by simp only [cntF]; rw [if_pos ⟨g2, g3⟩]
                  refine ⟨i + 1, [(0, 0), (1, 0), (2, 0)], by omega, by omega, ?_⟩
                  rw [hcc]
                  simp (config := {contextual := true}) [idTo, noW, fstNodup, cV, cE, cL, cLs, cVs, cView, cEnt, cRow, cEls, look, Row.z, Row.n, Row.at, Ent.w, Ent.m, Ent.row, lessP, hwi, hwc]
              · have hcc : cntF t.a t.b ((j : Int) - 1) (i + 1) = cntF t.a t.b ((j : Int) - 1) i := by simp only [cntF]; rw [if_neg fun hh => g3 hh.2]; rfl
                refine ⟨i + 1, [(0, 0), (1, 0), (2, 0)], by omega, by omega, ?_⟩
                rw [hcc]
                simp (config := {contextual := true}) [idTo, noW, fstNodup, cV, cE, cL, cLs, cVs, cView, cEnt, cRow, cEls, look, Row.z, Row.n, Row.at, Ent.w, Ent.m, Ent.row, lessP, hwi]
            · have hcc : cntF t.a t.b ((j : Int) - 1) (i + 1) = cntF t.a t.b ((j : Int) - 1) i := by simp only [cntF]; rw [if_neg fun hh => g2 hh.1]; rfl
              refine ⟨i + 1, [(0, 0), (1, 0), (2, 0)], by omega, by omega, ?_⟩
              rw [hcc]
              simp (config := {contextual := true}) [idTo, noW, fstNodup, cV, cE, cL, cLs, cVs, cView, cEnt, cRow, cEls, look, Row.z, Row.n, Row.at, Ent.w, Ent.m, Ent.row, lessP, hwi]
          · obtain rfl : i = t.n := by omega
            refine ⟨fun g4 => ?_, fun g4 => ?_⟩ <;> try simp only [decide_eq_true_eq, decide_eq_false_iff_not] at g4
            · have := hn1 g4
              refine ⟨fun g5 => ?_, fun g5 => ?_⟩ <;> try simp only [decide_eq_true_eq, decide_eq_false_iff_not, Decidable.not_not, ne_eq] at g5
              · omega
              · refine ⟨j + 1, [(0, 0), (1, 0), (2, 0)], by omega, by omega, ?_⟩
                simp (config := {contextual := true}) [idTo, noW, fstNodup, cV, cE, cL, cLs, cVs, cView, cEnt, cRow, cEls, look, Row.z, Row.n, Row.at, Ent.w, Ent.m, Ent.row, lessP, hwj2]
            · refine ⟨j + 1, [(0, 0), (1, 0), (2, 0)], by omega, by omega, ?_⟩
              simp (config := {contextual := true}) [idTo, noW, fstNodup, cV, cE, cL, cLs, cVs, cView, cEnt, cRow, cEls, look, Row.z, Row.n, Row.at, Ent.w, Ent.m, Ent.row, lessP, hwj2]
      · rw [sel_t d1, sel_f (by simpa using d2), sel_f (by simp [d4])]
        refine D.loopI (fun i : Nat => ⟨rg 91 [(3, .ptr 2 0 0 0), (4, .bool t.okb), (5, .i64 ((j : Int) - 1)), (6, .i64 (t.kp ((j : Int) - 1))), (7, .i64 (cntF t.a t.b ((j : Int) - 1) i)), (8, .i64 i)], [some (.one false (.arr 1 L0 (rowB x))), some (.one false (.arr 3 t.n (row3 t.a t.b t.c))), some (.one true (.lst 3 [[.i64 t.e, .i64 t.m, .sl 1 0 0 t.n t.n]]))]⟩) (fun i => i ≤ t.n) (fun i => t.n - i) 0 [(0, 0), (1, 0), (2, 0)] (Nat.zero_le _) ?_ ?_
        · simp (config := {contextual := true}) [idTo, noW, fstNodup, cV, cE, cL, cLs, cVs, cView, cEnt, cRow, cEls, look, Row.z, Row.n, Row.at, Ent.w, Ent.m, Ent.row, lessP, rg, List.replicate_succ, cntF]
        · intro i hi
          have hcn := cnt_le t.a t.b ((j : Int) - 1) i
          simp only [rg, List.replicate_succ, List.replicate_zero, List.set_cons_zero, List.set_cons_succ]
          refine run_ok tok 400 _ _ ?_; simp only [↓reduceIte, run_blk, run_back, run_opsNil, run_op, run_opT, run_skip, run_seq, run_block, run_cond, run_exit, run_ret, run_region, dop, ev, ofV, ofLeaf, put, told, yield, exitT, dBin, dFieldAddr, dIndexAddr, dLen, dBuiltin, dLoad, Row.z, Row.n, Row.at, Ent.m, Ent.row, look, pureP, pureO, ↓sel_true, ↓sel_false, tab, TK.agg, List.getD_cons_zero, List.getD_cons_succ, List.set_cons_zero, List.set_cons_succ, Option.map_some, Option.bind_some, Option.join_some, List.getElem?_toArray, List.getElem?_cons_zero, List.getElem?_cons_succ, Bool.false_eq_true, true_and, and_true, List.length_cons, List.length_nil, Nat.reduceAdd, List.drop_zero, List.drop_succ_cons, List.take_zero, List.take_succ_cons, List.take_nil, List.headD_cons, List.map_cons, List.map_nil, Nat.reduceLeDiff, Nat.lt_add_one, or_true, Nat.add_zero, Nat.zero_add, Int.toNat_natCast, reduceCtorEq]
          refine ⟨fun g1 => ?_, fun g1 => ?_⟩ <;> try simp only [decide_eq_true_eq, decide_eq_false_iff_not] at g1
          · have hwi : IntKind.i64.wrap ((i : Int) + 1) = ((i + 1 : Nat) : Int) := by rw [IntKind.wrap_i64]; omega
            have hwc : IntKind.i64.wrap (((cntF t.a t.b ((j : Int) - 1) i : Nat) : Int) + 1) = ((cntF t.a t.b ((j : Int) - 1) i + 1 : Nat) : Int) := by rw [IntKind.wrap_i64]; omega
            refine ⟨⟨by omega, by omega⟩, by omega, ?_⟩
            refine ⟨fun g2 => ?_, fun g2 => ?_⟩ <;> try simp only [decide_eq_true_eq, decide_eq_false_iff_not] at g2
            · refine ⟨⟨by omega, by omega⟩, by omega, ?_⟩
              refine ⟨fun g3 => ?_, fun g3 => ?_⟩ <;> try simp only [decide_eq_true_eq, decide_eq_false_iff_not] at g3
              · refine ⟨fun g4 => ?_, fun g4 => ?_⟩ <;> try simp only [decide_eq_true_eq, decide_eq_false_iff_not] at g4
                · refine ⟨⟨by omega, by omega⟩, by omega, ?_⟩
                  refine ⟨fun g5 => ?_, fun g5 => ?_⟩ <;> try simp only [decide_eq_true_eq, decide_eq_false_iff_not, Decidable.not_not, ne_eq] at g5
                  · exact absurd (hc i (by omega) g2 g3 g4) g5
                  · have hcc : cntF t.a t.b ((j : Int) - 1) (i + 1) = cntF t.a t.b ((j : Int) - 1) i + 1 := by simp only [cntF]; rw [if_pos ⟨g2, g3⟩]
                    refine ⟨i + 1, [(0, 0), (1, 0), (2, 0)], by omega, by omega, ?_⟩
                    rw [hcc]
                    simp (config := {contextual := true}) [idTo, noW, fstNodup, cV, cE, cL, cLs, cVs, cView, cEnt, cRow, cEls, look, Row.z, Row.n, Row.at, Ent.w, Ent.m, Ent.row, lessP, hwi, hwc]
                · have hcc : cntF t.a t.b ((j : Int) - 1) (i + 1) = cntF t.a t.b ((j : Int) - 1) i + 1 := by simp only [cntF]; rw [if_pos ⟨g2, g3⟩]
                  refine ⟨i + 1, [(0, 0), (1, 0), (2, 0)], by omega, by omega, ?_⟩
                  rw [hcc]
                  simp (config := {contextual := true}) [idTo, noW, fstNodup, cV, cE, cL, cLs, cVs, cView, cEnt, cRow, cEls, look, Row.z, Row.n, Row.at, Ent.w, Ent.m, Ent.row, lessP, hwi, hwc]
              · have hcc : cntF t.a t.b ((j : Int) - 1) (i + 1) = cntF t.a t.b ((j : Int) - 1) i := by simp only [cntF]; rw [if_neg fun hh => g3 hh.2]; rfl
                refine ⟨i + 1, [(0, 0), (1, 0), (2, 0)], by omega, by omega, ?_⟩
                rw [hcc]
                simp (config := {contextual := true}) [idTo, noW, fstNodup, cV, cE, cL, cLs, cVs, cView, cEnt, cRow, cEls, look, Row.z, Row.n, Row.at, Ent.w, Ent.m, Ent.row, lessP, hwi]
            · have hcc : cntF t.a t.b ((j : Int) - 1) (i + 1) = cntF t.a t.b ((j : Int) - 1) i := by simp only [cntF]; rw [if_neg fun hh => g2 hh.1]; rfl
              refine ⟨i + 1, [(0, 0), (1, 0), (2, 0)], by omega, by omega, ?_⟩
              rw [hcc]
              simp (config := {contextual := true}) [idTo, noW, fstNodup, cV, cE, cL, cLs, cVs, cView, cEnt, cRow, cEls, look, Row.z, Row.n, Row.at, Ent.w, Ent.m, Ent.row, lessP, hwi]
          · obtain rfl : i = t.n := by omega
            refine ⟨fun g4 => ?_, fun g4 => ?_⟩ <;> try simp only [decide_eq_true_eq, decide_eq_false_iff_not] at g4
            · have := hn1 g4
              refine ⟨fun g5 => ?_, fun g5 => ?_⟩ <;> try simp only [decide_eq_true_eq, decide_eq_false_iff_not, Decidable.not_not, ne_eq] at g5
              · omega
              · refine ⟨j + 1, [(0, 0), (1, 0), (2, 0)], by omega, by omega, ?_⟩
                simp (config := {contextual := true}) [idTo, noW, fstNodup, cV, cE, cL, cLs, cVs, cView, cEnt, cRow, cEls, look, Row.z, Row.n, Row.at, Ent.w, Ent.m, Ent.row, lessP, hwj2]
            · refine ⟨j + 1, [(0, 0), (1, 0), (2, 0)], by omega, by omega, ?_⟩
              simp (config := {contextual := true}) [idTo, noW, fstNodup, cV, cE, cL, cLs, cVs, cView, cEnt, cRow, cEls, look, Row.z, Row.n, Row.at, Ent.w, Ent.m, Ent.row, lessP, hwj2]
      · rw [sel_t d1, sel_t (by simpa using d2), sel_f (by simp [d3, d4])]
        refine D.loopI (fun i : Nat => ⟨rg 91 [(3, .ptr 2 0 0 0), (4, .bool t.okb), (5, .i64 ((j : Int) - 1)), (6, .i64 (t.kp ((j : Int) - 1))), (7, .i64 (cntF t.a t.b ((j : Int) - 1) i)), (8, .i64 i)], [some (.one false (.arr 1 L0 (rowB x))), some (.one false (.arr 3 t.n (row3 t.a t.b t.c))), some (.one true (.lst 3 [[.i64 t.e, .i64 t.m, .sl 1 0 0 t.n t.n]]))]⟩) (fun i => i ≤ t.n) (fun i => t.n - i) 0 [(0, 0), (1, 0), (2, 0)] (Nat.zero_le _) ?_ ?_
        · simp (config := {contextual := true}) [idTo, noW, fstNodup, cV, cE, cL, cLs, cVs, cView, cEnt, cRow, cEls, look, Row.z, Row.n, Row.at, Ent.w, Ent.m, Ent.row, lessP, rg, List.replicate_succ, cntF]
        · intro i hi
          have hcn := cnt_le t.a t.b ((j : Int) - 1) i
          simp only [rg, List.replicate_succ, List.replicate_zero, List.set_cons_zero, List.set_cons_succ]
          refine run_ok tok 400 _ _ ?_; simp only [↓reduceIte, run_blk, run_back, run_opsNil, run_op, run_opT, run_skip, run_seq, run_block, run_cond, run_exit, run_ret, run_region, dop, ev, ofV, ofLeaf, put, told, yield, exitT, dBin, dFieldAddr, dIndexAddr, dLen, dBuiltin, dLoad, Row.z, Row.n, Row.at, Ent.m, Ent.row, look, pureP, pureO, ↓sel_true, ↓sel_false, tab, TK.agg, List.getD_cons_zero, List.getD_cons_succ, List.set_cons_zero, List.set_cons_succ, Option.map_some, Option.bind_some, Option.join_some, List.getElem?_toArray, List.getElem?_cons_zero, List.getElem?_cons_succ, Bool.false_eq_true, true_and, and_true, List.length_cons, List.length_nil, Nat.reduceAdd, List.drop_zero, List.drop_succ_cons, List.take_zero, List.take_succ_cons, List.take_nil, List.headD_cons, List.map_cons, List.map_nil, Nat.reduceLeDiff, Nat.lt_add_one, or_true, Nat.add_zero, Nat.zero_add, Int.toNat_natCast, reduceCtorEq]
          refine ⟨fun g1 => ?_, fun g1 => ?_⟩ <;> try simp only [decide_eq_true_eq, decide_eq_false_iff_not] at g1
          · have hwi : IntKind.i64.wrap ((i : Int) + 1) = ((i + 1 : Nat) : Int) := by rw [IntKind.wrap_i64]; omega
            have hwc : IntKind.i64.wrap (((cntF t.a t.b ((j : Int) - 1) i : Nat) : Int) + 1) = ((cntF t.a t.b ((j : Int) - 1) i + 1 : Nat) : Int) := by rw [IntKind.wrap_i64]; omega
            refine ⟨⟨by omega, by omega⟩, by omega, ?_⟩
            refine ⟨fun g2 => ?_, fun g2 => ?_⟩ <;> try simp only [decide_eq_true_eq, decide_eq_false_iff_not] at g2
            · refine ⟨⟨by omega, by omega⟩, by omega, ?_⟩
              refine ⟨fun g3 => ?_, fun g3 => ?_⟩ <;> try simp only [decide_eq_true_eq, decide_eq_false_iff_not] at g3
              · refine ⟨fun g4 => ?_, fun g4 => ?_⟩ <;> try simp only [decide_eq_true_eq, decide_eq_false_iff_not] at g4
                · refine ⟨⟨by omega, by omega⟩, by omega, ?_⟩
                  refine ⟨fun g5 => ?_, fun g5 => ?_⟩ <;> try simp only [decide_eq_true_eq, decide_eq_false_iff_not, Decidable.not_not, ne_eq] at g5
                  · exact absurd (hc i (by omega) g2 g3 g4) g5
                  · have hcc : cntF t.a t.b ((j : Int) - 1) (i + 1) = cntF t.a t.b ((j : Int) - 1) i + 1 := by simp only [cntF]; rw [if_pos ⟨g2, g3⟩]
                    refine ⟨i + 1, [(0, 0), (1, 0), (2, 0)], by omega, by omega, ?_⟩
                    rw [hcc]
                    simp (config := {contextual := true}) [idTo, noW, fstNodup, cV, cE, cL, cLs, cVs, cView, cEnt, cRow, cEls, look, Row.z, Row.n, Row.at, Ent.w, Ent.m, Ent.row, lessP, hwi, hwc]
                · have hcc : cntF t.a t.b ((j : Int) - 1) (i + 1) = cntF t.a t.b ((j : Int) - 1) i + 1 := by simp only [cntF]; rw [if_pos ⟨g2, g3⟩]
                  refine ⟨i + 1, [(0, 0), (1, 0), (2, 0)], by omega, by omega, ?_⟩
                  rw [hcc]
                  simp (config := {contextual := true}) [idTo, noW, fstNodup, cV, cE, cL, cLs, cVs, cView, cEnt, cRow, cEls, look, Row.z, Row.n, Row.at, Ent.w, Ent.m, Ent.row, lessP, hwi, hwc]
              · have hcc : cntF t.a t.b ((j : Int) - 1) (i + 1) = cntF t.a t.b ((j : Int) - 1) i := by simp only [cntF]; rw [if_neg fun hh => g3 hh.2]; rfl
                refine ⟨i + 1, [(0, 0), (1, 0), (2, 0)], by omega, by omega, ?_⟩
                rw [hcc]
                simp (config := {contextual := true}) [idTo, noW, fstNodup, cV, cE, cL, cLs, cVs, cView, cEnt, cRow, cEls, look, Row.z, Row.n, Row.at, Ent.w, Ent.m, Ent.row, lessP, hwi]
            · have hcc : cntF t.a t.b ((j : Int) - 1) (i + 1) = cntF t.a t.b ((j : Int) - 1) i := by simp only [cntF]; rw [if_neg fun hh => g2 hh.1]; rfl
              refine ⟨i + 1, [(0, 0), (1, 0), (2, 0)], by omega, by omega, ?_⟩
              rw [hcc]
              simp (config := {contextual := true}) [idTo, noW, fstNodup, cV, cE, cL, cLs, cVs, cView, cEnt, cRow, cEls, look, Row.z, Row.n, Row.at, Ent.w, Ent.m, Ent.row, lessP, hwi]
          · obtain rfl : i = t.n := by omega
            refine ⟨fun g4 => ?_, fun g4 => ?_⟩ <;> try simp only [decide_eq_true_eq, decide_eq_false_iff_not] at g4
            · have := hn1 g4
              refine ⟨fun g5 => ?_, fun g5 => ?_⟩ <;> try simp only [decide_eq_true_eq, decide_eq_false_iff_not, Decidable.not_not, ne_eq] at g5
              · omega
              · refine ⟨j + 1, [(0, 0), (1, 0), (2, 0)], by omega, by omega, ?_⟩
                simp (config := {contextual := true}) [idTo, noW, fstNodup, cV, cE, cL, cLs, cVs, cView, cEnt, cRow, cEls, look, Row.z, Row.n, Row.at, Ent.w, Ent.m, Ent.row, lessP, hwj2]
            · refine ⟨j + 1, [(0, 0), (1, 0), (2, 0)], by omega, by omega, ?_⟩
              simp (config := {contextual := true}) [idTo, noW, fstNodup, cV, cE, cL, cLs, cVs, cView, cEnt, cRow, cEls, look, Row.z, Row.n, Row.at, Ent.w, Ent.m, Ent.row, lessP, hwj2]
    · refine Out.of [(0, 0)] ?_; simp (config := {contextual := true}) [outP, outOf, resL, idTo, noW, fstNodup, cV, cE, cL, cLs, cView, cEnt, cRow, look, Row.z, Row.n, Row.at, Ent.w, Ent.m, Ent.row]
end Go.Proofs.YtekhlpkodgjdeaaE
