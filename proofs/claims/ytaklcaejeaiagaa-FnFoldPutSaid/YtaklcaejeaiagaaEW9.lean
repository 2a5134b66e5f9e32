/- A part of the proof of a law of the given program: contracts of functions. No condition of its own. -/
import Derived.Test.YtaklcaejeaiagaaEW8
import Derived.Test.YtaklcaejeaiagaaEG5
namespace Go.Proofs.YtaklcaejeaiagaaE
open Go.Proofs
set_option maxRecDepth 100000
/-- What is put by the second program. -/
def putI (bb : Bool) (n : Nat) (g h : Nat → Int) (m : Nat) (g' h' : Nat → Int) : List (Int × Int) := if bb then delL (sortP (oP m g' h' g h n)) else []
theorem putI_eq (bb : Bool) (n : Nat) (g h : Nat → Int) (m : Nat) (g' h' : Nat → Int) (hbb : bb = true ↔ okP n g h ∧ okP m g' h') : putI bb n g h m g' h' = putR bb n g h m g' h' := by
  cases bb
  · rfl
  · have := hbb.1 rfl
    exact put_eq this.1 this.2
theorem sortAll (l : List (Int × Int)) (p : Nat) (hn2 : l.length < 4611686018427387904) (hk : ∀ x ∈ l, 0 ≤ x.1 ∧ x.1 ≤ 39) (hd : l.Pairwise fun x y => x.1 ≠ y.1) :
    Tri Try.prog 82 [.sl 0 0 0 l.length p, .fn 83 []] [arrP l] (.tup []) [arrP (sortP l)] := by
  by_cases h0 : l.length = 0
  · have := List.eq_nil_of_length_eq_zero h0
    subst this
    have h1 : sortP [] = [] := by simp [sortP]
    rw [h1]
    exact t820 p _ _
  · exact t82 l p (by omega) hn2 hk hd
set_option maxHeartbeats 8000000 in
theorem t30 (n m p q : Nat) (hn : n ≤ 1048576) (hm : m ≤ 1048576) (g h g' h' : Nat → Int) (bb : Bool) (hbb : bb = true ↔ okP n g h ∧ okP m g' h') :
   Tri Try.prog 30 [.sl 0 0 0 n p, .sl 1 0 0 m q] [some (.one false (.arr 2 n (row2 g h))), some (.one false (.arr 2 m (row2 g' h')))]
   (.sl 2 0 0 (putI bb n g h m g' h').length 0) [some (.one false (.arr 2 n (row2 g h))), some (.one false (.arr 2 m (row2 g' h'))), arrP (putI bb n g h m g' h')] := by
  obtain ⟨b1, hb1⟩ := bool_of (okP n g h)
  obtain ⟨b2, hb2⟩ := bool_of (okP m g' h')
  refine Tri.of tok Try.func30 rfl ?_; refine D.ghost 2 (fun _ => []) ?_; simp only [Try.ntmps30, Try.results30, List.length_cons, List.length_nil, Nat.reduceAdd, Nat.reduceSub, List.replicate_succ, List.replicate_zero, List.cons_append, List.nil_append]; refine run_ok tok 400 _ _ ?_; simp only [run_opsNil, run_op, run_seq, run_region, dop, ev, ofV, ofLeaf, put, List.getD_cons_zero, List.set_cons_zero, List.set_cons_succ, true_and]
  refine D.call Try.func78 [(0, 0)] (t78 n p hn g h b1 hb1) ?_; simp only [↓reduceIte, callP, callOk, wOk, jsOf, noW, fstNodup, allW, sig, renV, renE, renL, afterH, backH, capV, cV, cE, cL, cLs, cVs, cView, cEnt, cRow, ev, look, Row.z, Row.n, Row.at, Ent.w, Ent.m, Ent.row, put, List.lookup_nil, Bool.or_true, Bool.or_false, Bool.and_true, Bool.and_false, Bool.not_false, beq_self_eq_true, List.any_nil, List.all_cons, List.all_nil, List.getD_cons_zero, List.getD_cons_succ, List.set_cons_zero, List.set_cons_succ, List.getElem?_cons_zero, List.length_cons, List.length_nil, List.drop_succ_cons, List.drop_nil, List.map_cons, List.map_nil, List.append_nil, Option.join_some, Nat.reduceAdd, Nat.lt_add_one, Nat.zero_lt_succ, Nat.add_zero, Nat.zero_add, Nat.le_refl, decide_true, true_and, and_true, and_self, implies_true, imp_self, Bool.false_eq_true]; refine run_ok tok 400 _ _ ?_; simp only [↓reduceIte, run_opsNil, run_op, run_opF, run_seq, run_cond, run_ret, run_region, dop, ev, ofV, ofLeaf, put, told, yield, dUn, pureO, ↓sel_true, ↓sel_false, List.getD_cons_zero, List.getD_cons_succ, List.set_cons_zero, List.set_cons_succ, Option.map_some, Option.bind_some, List.getElem?_toArray, List.getElem?_cons_zero, List.getElem?_cons_succ, true_and]
  cases b1
  · have hb := no_of hbb (fun hh => by have := hb1.2 hh.1; cases this)
    subst hb
    simp only [sel_true, Bool.not_false]
    refine Out.of [(0, 0), (1, 0), (2, 0)] ?_; simp (config := {contextual := true}) [outP, outOf, resL, idTo, noW, fstNodup, cV, cE, cL, cLs, cView, cEnt, cRow, look, Row.z, Row.n, Row.at, Ent.w, Ent.m, Ent.row, putI]
  simp only [sel_false, Bool.not_true]
  refine run_ok tok 400 _ _ ?_; simp only [run_op, dop]
  refine D.call Try.func78 [(1, 0)] (t78 m q hm g' h' b2 hb2) ?_; simp only [↓reduceIte, callP, callOk, wOk, jsOf, noW, fstNodup, allW, sig, renV, renE, renL, afterH, backH, capV, cV, cE, cL, cLs, cVs, cView, cEnt, cRow, ev, look, Row.z, Row.n, Row.at, Ent.w, Ent.m, Ent.row, put, List.lookup_nil, Bool.or_true, Bool.or_false, Bool.and_true, Bool.and_false, Bool.not_false, beq_self_eq_true, List.any_nil, List.all_cons, List.all_nil, List.getD_cons_zero, List.getD_cons_succ, List.set_cons_zero, List.set_cons_succ, List.getElem?_cons_zero, List.getElem?_cons_succ, List.length_cons, List.length_nil, List.drop_succ_cons, List.drop_nil, List.map_cons, List.map_nil, List.append_nil, Option.join_some, Nat.reduceAdd, Nat.reduceLT, Nat.lt_add_one, Nat.add_zero, Nat.zero_add, Nat.le_refl, decide_true, true_and, and_true, and_self, implies_true, imp_self, Bool.false_eq_true]; refine run_ok tok 400 _ _ ?_; simp only [↓reduceIte, run_opsNil, run_op, run_opF, run_skip, run_seq, run_cond, run_ret, run_region, dop, ev, ofV, ofLeaf, put, told, yield, dUn, pureO, ↓sel_false, List.getD_cons_zero, List.getD_cons_succ, List.set_cons_zero, List.set_cons_succ, Option.map_some, Option.bind_some, List.getElem?_toArray, List.getElem?_cons_zero, List.getElem?_cons_succ, Bool.false_eq_true, true_and]
  cases b2
  · have hb := no_of hbb (fun hh => by have := hb2.2 hh.2; cases this)
    subst hb
    simp only [sel_true, Bool.not_false]
    refine Out.of [(0, 0), (1, 0), (2, 0)] ?_; simp (config := {contextual := true}) [outP, outOf, resL, idTo, noW, fstNodup, cV, cE, cL, cLs, cView, cEnt, cRow, look, Row.z, Row.n, Row.at, Ent.w, Ent.m, Ent.row, putI]
  simp only [sel_false, Bool.not_true]
  refine run_ok tok 400 _ _ ?_; simp only [run_op, dop]
  have hk := hb1.1 rfl
  have hk' := hb2.1 rfl
  have hb := hbb.2 ⟨hk, hk'⟩
  subst hb
  simp only [putI, if_true]
  have hn4 := hk.1
  have hm4 := hk'.1
  refine D.call Try.func79 [(1, 0)] (t79 m q hm g' h') ?_; simp only [↓reduceIte, callP, callOk, wOk, jsOf, noW, fstNodup, allW, sig, sigma, renV, renE, renL, afterH, backH, Row.ren, Ent.ren, capV, cV, cE, cL, cLs, cVs, cView, cEnt, cRow, ev, look, Row.z, Row.n, Row.at, Ent.w, Ent.m, Ent.row, put, List.lookup_nil, Bool.or_true, Bool.or_false, Bool.and_true, Bool.and_false, Bool.not_false, beq_self_eq_true, List.any_nil, List.all_cons, List.all_nil, List.getD_cons_zero, List.getD_cons_succ, List.set_cons_zero, List.set_cons_succ, List.getElem?_cons_zero, List.getElem?_cons_succ, List.length_cons, List.length_nil, List.drop_zero, List.drop_succ_cons, List.map_cons, List.map_nil, List.cons_append, List.nil_append, List.append_nil, Option.map_some, Option.join_some, Nat.reduceAdd, Nat.reduceSub, Nat.reduceLT, Nat.lt_add_one, Nat.add_zero, Nat.zero_add, Nat.le_refl, decide_true, true_and, and_true, and_self, implies_true, imp_self, Bool.false_eq_true, Nat.lt_irrefl]; refine run_ok tok 400 _ _ ?_; simp only [run_opsNil, run_op, run_seq, run_block, run_region, run_loop, dop, ev, ofV, ofLeaf, put, dLen, dBuiltin, pureO, tab, List.getD_cons_zero, List.getD_cons_succ, List.set_cons_zero, List.set_cons_succ, Option.map_some, true_and, List.map_cons, List.map_nil]
  have hml := mk_len g' h' m
  have hmg := mk_get g' h' m
  refine D.loopI (fun k : Nat => ⟨rg 37 [(0, .sl 0 0 0 n p), (1, .sl 1 0 0 m q), (5, .sl 3 0 0 (oP m g' h' g h k).length (oP m g' h' g h k).length), (18, .sl 0 0 0 n p), (19, .i64 n), (20, .i64 k)], [some (.one false (.arr 2 n (row2 g h))), some (.one false (.arr 2 m (row2 g' h'))), none, arrP (oP m g' h' g h k)]⟩) (fun k => k ≤ n) (fun k => n - k) 0 [(0, 0), (1, 0), (2, 0), (3, 0)] (Nat.zero_le _) ?_ ?_
  · simp (config := {contextual := true}) [idTo, noW, fstNodup, cV, cE, cL, cLs, cVs, cView, cEnt, cRow, look, Row.z, Row.n, Row.at, Ent.w, Ent.m, Ent.row, lessP, rg, List.replicate_succ, oP, hml, hmg]
  intro k hkn
  have hol := oP_len m g' h' g h k
  simp only [rg, List.replicate_succ, List.replicate_zero, List.set_cons_zero, List.set_cons_succ]
  by_cases q0 : k < n
  · have hw : IntKind.i64.wrap ((k : Int) + 1) = ((k + 1 : Nat) : Int) := by rw [IntKind.wrap_i64]; omega
    have hs : oP m g' h' g h (k + 1) = if noK g' (g k) m then oP m g' h' g h k ++ [(g k, h k)] else oP m g' h' g h k := rfl
    generalize oP m g' h' g h k = o at hol hs ⊢
    obtain ⟨bk, hbk⟩ := bool_of (¬ ∀ j, j < m → g' j ≠ g k)
    refine run_ok tok 400 _ _ ?_; simp only [↓reduceIte, run_opsNil, run_op, run_skip, run_seq, run_block, run_cond, run_exit, run_region, dop, ev, put, told, exitT, dBin, dIndexAddr, dAlloc, dLoad, dStore, dCaps, newRow1, splice, cellsOf, DV.leaf, Row.z, Row.n, Row.at, Row.upd, Ent.w, Ent.m, Ent.row, Ent.upd, look, pureP, newP, tab, TK.agg, List.getD_cons_zero, List.getD_cons_succ, List.set_cons_zero, List.set_cons_succ, Option.map_some, Option.join_some, List.getElem?_cons_zero, List.getElem?_cons_succ, true_and, and_true, List.length_cons, List.length_nil, Nat.reduceAdd, List.cons_append, List.nil_append, List.append_nil, List.drop_zero, List.drop_succ_cons, List.drop_nil, List.take_zero, List.take_succ_cons, List.take_nil, List.map_cons, List.map_nil, List.all_cons, List.all_nil, Bool.and_self, Nat.reduceLeDiff, Nat.zero_lt_succ, Nat.lt_add_one, true_or, Nat.zero_add, Int.toNat_natCast, Nat.reduceEqDiff, List.size_toArray]
    refine ⟨fun q1 => ?_, fun q1 => ?_⟩ <;> try simp only [decide_eq_true_eq, decide_eq_false_iff_not] at q1
    · refine ⟨⟨by omega, by omega⟩, q0, ?_⟩
      refine D.call Try.func80 [(1, 0), (4, 0)] (t80x m q hm (g k) (h k) g' h' bk hbk) ?_; simp only [↓reduceIte, callP, callOk, wOk, jsOf, noW, fstNodup, allW, sig, renV, renE, renL, afterH, backH, capV, cV, cE, cL, cLs, cVs, cView, cEnt, cRow, cEls, ev, look, Row.z, Row.n, Row.at, Ent.w, Ent.m, Ent.row, put, List.lookup_nil, Bool.or_true, Bool.or_false, Bool.and_true, Bool.and_false, Bool.not_false, beq_self_eq_true, List.any_cons, List.any_nil, List.all_cons, List.all_nil, List.getD_cons_zero, List.getD_cons_succ, List.set_cons_zero, List.set_cons_succ, List.getElem?_cons_zero, List.getElem?_cons_succ, List.length_cons, List.length_nil, List.drop_succ_cons, List.drop_nil, List.map_cons, List.map_nil, List.append_nil, Option.join_some, Nat.reduceAdd, Nat.reduceLT, Nat.reduceBEq, Nat.lt_add_one, Nat.zero_lt_succ, Nat.add_zero, Nat.zero_add, Nat.le_refl, decide_true, true_and, and_true, and_self, implies_true, imp_self, Bool.false_eq_true]; refine run_ok tok 400 _ _ ?_; simp only [↓reduceIte, run_blk, run_back, run_opsNil, run_op, run_skip, run_cond, run_region, dop, ev, ofV, ofLeaf, put, told, dBin, dUn, dLoad, dBuildSlice, dElems, newRow1, cellsOf, DV.leaf, Row.z, Row.n, Row.at, Ent.w, Ent.m, Ent.row, look, pureP, pureO, newP, tab, TK.agg, List.getD_cons_zero, List.getD_cons_succ, List.set_cons_zero, List.set_cons_succ, Option.map_some, Option.join_some, List.getElem?_cons_zero, List.getElem?_cons_succ, true_and, and_true, List.length_cons, List.length_nil, Nat.reduceAdd, List.cons_append, List.nil_append, List.drop_zero, List.take_succ_cons, List.take_nil, List.map_cons, List.map_nil, List.all_cons, List.all_nil, Bool.and_self, Nat.reduceLeDiff, Nat.zero_lt_succ, Nat.lt_add_one, true_or, Nat.zero_add, List.replicate_succ, List.replicate_zero, Nat.reduceEqDiff, dAppend, part, srcP, ownB, killX, Nat.reduceMul]
      cases bk
      · have hno : noK g' (g k) m = true := noK_iff.2 (Classical.byContradiction fun hh => by have := hbk.2 hh; cases this)
        rw [if_pos hno] at hs
        simp only [sel_true, Bool.not_false]
        refine ⟨⟨by omega, fun q hq => by (obtain rfl : q = 0 := by omega); rfl, by omega, by omega⟩, ?_⟩
        refine ⟨k + 1, [(0, 0), (1, 0), (2, 0), (6, 0)], by omega, by omega, ?_⟩
        rw [hs]
        simp (config := {contextual := true}) [le_capJ, idTo, noW, fstNodup, cV, cE, cL, cLs, cVs, cView, cEnt, cRow, look, Row.z, Row.n, Row.at, Ent.w, Ent.m, Ent.row, lessP, hw]
        intro j hj
        by_cases h8 : j < o.length
        · simp [joined, h8, cLs, cL, pg_app]
        · obtain rfl : j = o.length := by omega
          simp [joined, cLs, cL, pg_snoc]
      · have hno : ¬ noK g' (g k) m = true := fun hh => hbk.1 rfl (noK_iff.1 hh)
        rw [if_neg hno] at hs
        simp only [sel_false, Bool.not_true]
        refine ⟨k + 1, [(0, 0), (1, 0), (2, 0), (3, 0)], by omega, by omega, ?_⟩
        rw [hs]
        simp (config := {contextual := true}) [idTo, noW, fstNodup, cV, cE, cL, cLs, cVs, cView, cEnt, cRow, look, Row.z, Row.n, Row.at, Ent.w, Ent.m, Ent.row, lessP, hw]
    · omega
  obtain rfl : n = k := by omega
  have hok := oP_keys hk hk'
  have hod := oP_dist hk hk' n (Nat.le_refl _)
  generalize oP m g' h' g h n = o at hol hok hod ⊢
  have hls : (sortP o).length = o.length := (sortP_perm o).length_eq
  refine run_ok tok 400 _ _ ?_; simp only [↓reduceIte, run_opsNil, run_op, run_skip, run_seq, run_block, run_cond, run_exit, run_region, dop, ev, put, told, exitT, dBin, dIndexAddr, dAlloc, dLoad, dStore, dCaps, newRow1, splice, cellsOf, DV.leaf, Row.z, Row.n, Row.at, Row.upd, Ent.w, Ent.m, Ent.row, Ent.upd, look, pureP, newP, tab, TK.agg, List.getD_cons_zero, List.getD_cons_succ, List.set_cons_zero, List.set_cons_succ, Option.map_some, Option.join_some, List.getElem?_cons_zero, List.getElem?_cons_succ, true_and, and_true, List.length_cons, List.length_nil, Nat.reduceAdd, List.cons_append, List.nil_append, List.append_nil, List.drop_zero, List.drop_succ_cons, List.drop_nil, List.take_zero, List.take_succ_cons, List.take_nil, List.map_cons, List.map_nil, List.all_cons, List.all_nil, Bool.and_self, Nat.lt_irrefl, Nat.reduceLeDiff, Nat.zero_lt_succ, Nat.lt_add_one, true_or, Nat.zero_add, Int.toNat_natCast, Nat.reduceEqDiff, List.size_toArray]
  refine ⟨fun q1 => ?_, fun q1 => ?_⟩ <;> try simp only [decide_eq_true_eq, decide_eq_false_iff_not] at q1
  · omega
  refine D.call Try.func82 [(3, 0)] (sortAll o o.length (by omega) hok hod) ?_; simp only [↓reduceIte, callP, callOk, wOk, jsOf, noW, fstNodup, allW, sig, renV, renL, afterH, backH, Row.ren, Ent.ren, capV, cV, cE, cL, cLs, cVs, cView, cEnt, cRow, ev, look, Row.z, Row.n, Row.at, Ent.w, Ent.m, Ent.row, put, List.lookup_cons, List.lookup_nil, Bool.or_true, Bool.and_true, Bool.not_true, Bool.not_false, beq_self_eq_true, List.any_nil, List.all_cons, List.all_nil, List.getD_cons_zero, List.getD_cons_succ, List.set_cons_zero, List.set_cons_succ, List.getElem?_cons_zero, List.getElem?_cons_succ, List.length_cons, List.length_nil, List.drop_succ_cons, List.drop_nil, List.map_cons, List.map_nil, List.append_nil, Option.map_some, Option.join_some, Nat.reduceAdd, Nat.reduceBEq, Nat.lt_add_one, Nat.add_zero, Nat.zero_add, Nat.le_refl, decide_true, true_and, and_true, and_self, implies_true, imp_self]; refine run_ok tok 400 _ _ ?_; simp only [run_opsNil, run_op, run_seq, run_region, dop, ev, put, List.getD_cons_zero, List.getD_cons_succ, List.set_cons_zero, List.set_cons_succ, true_and]
  have hdl := delT_len (sortP o) (sortP o).length
  refine D.call Try.func84 [(3, 0)] (t84 (sortP o) (by omega) 0) ?_
  simp only [↓reduceIte, callP, callOk, wOk, jsOf, noW, fstNodup, allW, sig, sigma, rl, renV, renE, renL, afterH, backH, Row.ren, Ent.ren, capV, cV, cE, cL, cLs, cVs, cView, cEnt, cRow, ev, look, Row.z, Row.n, Row.at, Ent.w, Ent.m, Ent.row, put, List.lookup_cons, List.lookup_nil, Bool.or_true, Bool.and_true, Bool.not_true, Bool.not_false, beq_self_eq_true, List.any_nil, List.all_cons, List.all_nil, List.getD_cons_zero, List.getD_cons_succ, List.set_cons_zero, List.set_cons_succ, List.getElem?_cons_zero, List.getElem?_cons_succ, List.length_cons, List.length_nil, List.drop_succ_cons, List.drop_nil, List.map_cons, List.map_nil, List.append_nil, Option.map_some, Option.join_some, Nat.reduceAdd, Nat.reduceBEq, Nat.lt_add_one, Nat.add_zero, Nat.zero_add, Nat.zero_le, decide_true, true_and, and_true, and_self, implies_true, imp_self]
  refine ⟨hls.symm, ?_⟩
  refine run_ok tok 400 _ _ ?_; simp only [run_opsNil, run_op, run_ret, dop, ev, put, List.getD_cons_zero, List.getD_cons_succ, List.set_cons_zero, List.set_cons_succ, true_and]
  generalize delL (sortP o) = o2
  refine Out.of [(0, 0), (1, 0), (3, 0)] ?_; simp (config := {contextual := true}) [outP, outOf, resL, idTo, noW, fstNodup, cV, cE, cL, cLs, cView, cEnt, cRow, look, Row.z, Row.n, Row.at, Ent.w, Ent.m, Ent.row]
end Go.Proofs.YtaklcaejeaiagaaE
