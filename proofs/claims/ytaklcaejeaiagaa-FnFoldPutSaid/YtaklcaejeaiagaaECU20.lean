/- A part of the proof of a law of the given program: contracts of functions. No condition of its own. -/
import Derived.Test.YtaklcaejeaiagaaECU10
import Derived.Test.YtaklcaejeaiagaaEG4
namespace Go.Proofs.YtaklcaejeaiagaaE
open Go.Proofs
set_option maxRecDepth 100000
def pg (l : List (Int × Int)) (i : Nat) : Int := (l.getD i (0, 0)).1
def ph (l : List (Int × Int)) (i : Nat) : Int := (l.getD i (0, 0)).2
abbrev arrP (l : List (Int × Int)) : Option Ent := some (.one true (.arr 2 l.length (row2 (pg l) (ph l))))
theorem pg_lt (l m : List (Int × Int)) (i : Nat) (h : i < l.length) : pg (l ++ m) i = pg l i ∧ ph (l ++ m) i = ph l i := by simp [pg, ph, List.getD_eq_getElem?_getD, List.getElem?_append, h]
theorem pg_at (l : List (Int × Int)) (a b : Int) : pg (l ++ [(a, b)]) l.length = a ∧ ph (l ++ [(a, b)]) l.length = b := by simp [pg, ph, List.getD_eq_getElem?_getD]
/-- The last value of a key among pairs, else another. -/
def lastV : Nat → (Nat → Int) → (Nat → Int) → Int → Int → Int
  | 0, _, _, _, acc => acc
  | m + 1, g, h, k, acc => if g m = k then h m else lastV m g h k acc
def putV (n : Nat) (g h : Nat → Int) (m : Nat) (g' h' : Nat → Int) (k : Int) : Int := lastV m g' h' k (getV n g h k)
def putL (n : Nat) (g h : Nat → Int) (m : Nat) (g' h' : Nat → Int) : Nat → List (Int × Int)
  | 0 => []
  | k + 1 => if putV n g h m g' h' k = 0 then putL n g h m g' h' k else putL n g h m g' h' k ++ [((k : Int), putV n g h m g' h' k)]
theorem putL_len (n : Nat) (g h : Nat → Int) (m : Nat) (g' h' : Nat → Int) : ∀ k, (putL n g h m g' h' k).length ≤ k
  | 0 => by simp [putL]
  | k + 1 => by
    have := putL_len n g h m g' h' k
    simp only [putL]
    split
    · omega
    · simp only [List.length_append, List.length_cons, List.length_nil]; omega
/-- What is put, of pairs in form. -/
def putR (b : Bool) (n : Nat) (g h : Nat → Int) (m : Nat) (g' h' : Nat → Int) : List (Int × Int) := if b then putL n g h m g' h' 40 else []
theorem putR_len (b : Bool) (n : Nat) (g h : Nat → Int) (m : Nat) (g' h' : Nat → Int) : (putR b n g h m g' h').length ≤ 40 := by
  unfold putR; split
  · exact putL_len ..
  · simp
set_option maxHeartbeats 8000000 in
theorem t29 (n m p q : Nat) (hn : n ≤ 1048576) (hm : m ≤ 1048576) (g h g' h' : Nat → Int) (bb : Bool) (hbb : bb = true ↔ okP n g h ∧ okP m g' h') :
   Tri Try.prog 29 [.sl 0 0 0 n p, .sl 1 0 0 m q] [some (.one false (.arr 2 n (row2 g h))), some (.one false (.arr 2 m (row2 g' h')))]
   (.sl 2 0 0 (putR bb n g h m g' h').length (putR bb n g h m g' h').length) [some (.one false (.arr 2 n (row2 g h))), some (.one false (.arr 2 m (row2 g' h'))), arrP (putR bb n g h m g' h')] := by
  obtain ⟨b1, hb1⟩ := bool_of (okP n g h)
  obtain ⟨b2, hb2⟩ := bool_of (okP m g' h')
  refine Tri.of tok Try.func29 rfl ?_; simp only [Try.ntmps29, Try.results29, List.length_cons, List.length_nil, Nat.reduceAdd, Nat.reduceSub, List.replicate_succ, List.replicate_zero, List.cons_append, List.nil_append]; refine run_ok tok 400 _ _ ?_; simp only [↓reduceIte, run_opsNil, run_op, run_seq, run_region, dop, ev, ofV, ofLeaf, put, dBuildSlice, dElems, newRow1, newP, tab, List.getD_cons_zero, List.getD_cons_succ, List.set_cons_zero, List.set_cons_succ, Option.map_some, true_and, and_true, List.length_cons, List.length_nil, Nat.reduceAdd, List.cons_append, List.nil_append, List.map_nil, Nat.zero_lt_succ, Nat.zero_add, List.replicate_zero, Nat.zero_mul, Nat.zero_le]
  refine D.call Try.func76 [(0, 0)] (t76 n p hn g h b1 hb1) ?_; simp only [↓reduceIte, callP, callOk, wOk, jsOf, noW, fstNodup, allW, sig, renV, renE, renL, afterH, backH, capV, cV, cE, cL, cLs, cVs, cView, cEnt, cRow, ev, look, Row.z, Row.n, Row.at, Ent.w, Ent.m, Ent.row, put, List.lookup_nil, Bool.or_true, Bool.or_false, Bool.and_true, Bool.and_false, Bool.not_false, beq_self_eq_true, List.any_nil, List.all_cons, List.all_nil, List.getD_cons_zero, List.getD_cons_succ, List.set_cons_zero, List.set_cons_succ, List.getElem?_cons_zero, List.length_cons, List.length_nil, List.drop_succ_cons, List.drop_nil, List.map_cons, List.map_nil, List.append_nil, Option.join_some, Nat.reduceAdd, Nat.lt_add_one, Nat.zero_lt_succ, Nat.add_zero, Nat.zero_add, Nat.le_refl, decide_true, true_and, and_true, and_self, implies_true, imp_self, Bool.false_eq_true]; refine run_ok tok 400 _ _ ?_; simp only [↓reduceIte, run_opsNil, run_op, run_opF, run_seq, run_cond, run_ret, run_region, dop, ev, ofV, ofLeaf, put, told, yield, dUn, pureO, ↓sel_true, ↓sel_false, List.getD_cons_zero, List.getD_cons_succ, List.set_cons_zero, List.set_cons_succ, Option.map_some, Option.bind_some, List.getElem?_toArray, List.getElem?_cons_zero, List.getElem?_cons_succ, true_and]
  refine ⟨fun q1 => ?_, fun q1 => ?_⟩ <;> try simp only [Bool.not_eq_true', Bool.not_eq_false'] at q1
  · have hb := no_of hbb (fun hh => by rw [hb1.2 hh.1] at q1; cases q1)
    subst hb
    refine Out.of [(0, 0), (1, 0), (2, 0)] ?_; simp (config := {contextual := true}) [outP, outOf, resL, idTo, noW, fstNodup, cV, cE, cL, cLs, cView, cEnt, cRow, look, Row.z, Row.n, Row.at, Ent.w, Ent.m, Ent.row, putR]
  refine D.call Try.func76 [(1, 0)] (t76 m q hm g' h' b2 hb2) ?_; simp only [↓reduceIte, callP, callOk, wOk, jsOf, noW, fstNodup, allW, sig, renV, renE, renL, afterH, backH, capV, cV, cE, cL, cLs, cVs, cView, cEnt, cRow, ev, look, Row.z, Row.n, Row.at, Ent.w, Ent.m, Ent.row, put, List.lookup_nil, Bool.or_true, Bool.or_false, Bool.and_true, Bool.and_false, Bool.not_false, beq_self_eq_true, List.any_nil, List.all_cons, List.all_nil, List.getD_cons_zero, List.getD_cons_succ, List.set_cons_zero, List.set_cons_succ, List.getElem?_cons_zero, List.getElem?_cons_succ, List.length_cons, List.length_nil, List.drop_succ_cons, List.drop_nil, List.map_cons, List.map_nil, List.append_nil, Option.join_some, Nat.reduceAdd, Nat.reduceLT, Nat.lt_add_one, Nat.add_zero, Nat.zero_add, Nat.le_refl, decide_true, true_and, and_true, and_self, implies_true, imp_self, Bool.false_eq_true]; refine run_ok tok 400 _ _ ?_; simp only [↓reduceIte, run_opsNil, run_op, run_opF, run_skip, run_seq, run_block, run_cond, run_ret, run_region, run_loop, dop, ev, ofV, ofLeaf, put, told, yield, dUn, pureO, ↓sel_false, List.getD_cons_zero, List.getD_cons_succ, List.set_cons_zero, List.set_cons_succ, Option.map_some, Option.bind_some, List.getElem?_toArray, List.getElem?_cons_zero, List.getElem?_cons_succ, Bool.false_eq_true, true_and]
  refine ⟨fun q2 => ?_, fun q2 => ?_⟩ <;> try simp only [Bool.not_eq_true', Bool.not_eq_false'] at q2
  · have hb := no_of hbb (fun hh => by rw [hb2.2 hh.2] at q2; cases q2)
    subst hb
    refine Out.of [(0, 0), (1, 0), (2, 0)] ?_; simp (config := {contextual := true}) [outP, outOf, resL, idTo, noW, fstNodup, cV, cE, cL, cLs, cView, cEnt, cRow, look, Row.z, Row.n, Row.at, Ent.w, Ent.m, Ent.row, putR]
  have hb := hbb.2 ⟨hb1.1 q1, hb2.1 q2⟩
  subst hb
  simp only [putR, if_true]
  refine D.loopI (fun k : Nat => ⟨rg 53 [(0, .sl 0 0 0 n p), (1, .sl 1 0 0 m q), (5, .sl 2 0 0 (putL n g h m g' h' k).length (putL n g h m g' h' k).length), (6, .i64 k)], [some (.one false (.arr 2 n (row2 g h))), some (.one false (.arr 2 m (row2 g' h'))), arrP (putL n g h m g' h' k)]⟩) (fun k => k ≤ 40) (fun k => 40 - k) 0 [(0, 0), (1, 0), (2, 0)] (Nat.zero_le _) ?_ ?_
  · simp (config := {contextual := true}) [idTo, noW, fstNodup, cV, cE, cL, cLs, cVs, cView, cEnt, cRow, look, Row.z, Row.n, Row.at, Ent.w, Ent.m, Ent.row, lessP, rg, List.replicate_succ, putL]
  intro k hk
  have hlen := putL_len n g h m g' h' k
  simp only [rg, List.replicate_succ, List.replicate_zero, List.set_cons_zero, List.set_cons_succ]
  refine run_ok tok 400 _ _ ?_; simp only [↓reduceIte, run_opsNil, run_op, run_skip, run_seq, run_block, run_cond, run_exit, run_ret, run_region, dop, ev, ofV, ofLeaf, put, told, exitT, dBin, pureP, List.getD_cons_zero, List.getD_cons_succ, List.set_cons_zero, List.set_cons_succ, Option.map_some, true_and]
  refine ⟨fun q3 => ?_, fun q3 => ?_⟩ <;> try simp only [decide_eq_true_eq, decide_eq_false_iff_not] at q3
  · have hw : IntKind.i64.wrap ((k : Int) + 1) = ((k + 1 : Nat) : Int) := by rw [IntKind.wrap_i64]; omega
    refine D.call Try.func77 [(0, 0)] (t77 n p hn g h k) ?_; simp only [↓reduceIte, callP, callOk, wOk, jsOf, noW, fstNodup, allW, sig, renV, renE, renL, afterH, backH, capV, cV, cE, cL, cLs, cVs, cView, cEnt, cRow, ev, look, Row.z, Row.n, Row.at, Ent.w, Ent.m, Ent.row, put, List.lookup_nil, Bool.or_true, Bool.or_false, Bool.and_true, Bool.and_false, Bool.not_false, beq_self_eq_true, List.any_nil, List.all_cons, List.all_nil, List.getD_cons_zero, List.getD_cons_succ, List.set_cons_zero, List.set_cons_succ, List.getElem?_cons_zero, List.length_cons, List.length_nil, List.drop_succ_cons, List.drop_nil, List.map_cons, List.map_nil, List.append_nil, Option.join_some, Nat.reduceAdd, Nat.lt_add_one, Nat.zero_lt_succ, Nat.add_zero, Nat.zero_add, Nat.le_refl, decide_true, true_and, and_true, and_self, implies_true, imp_self, Bool.false_eq_true]; refine run_ok tok 400 _ _ ?_; simp only [run_opsNil, run_op, run_seq, run_block, run_region, run_loop, dop, ev, ofV, ofLeaf, put, List.getD_cons_zero, List.getD_cons_succ, List.set_cons_zero, List.set_cons_succ, true_and]
    refine D.loopI (fun i : Nat => ⟨rg 53 [(0, .sl 0 0 0 n p), (1, .sl 1 0 0 m q), (5, .sl 2 0 0 (putL n g h m g' h' k).length (putL n g h m g' h' k).length), (6, .i64 k), (7, .i64 (lastV i g' h' k (getV n g h k))), (8, .i64 i)], [some (.one false (.arr 2 n (row2 g h))), some (.one false (.arr 2 m (row2 g' h'))), arrP (putL n g h m g' h' k)]⟩) (fun i => i ≤ m) (fun i => m - i) 0 [(0, 0), (1, 0), (2, 0)] (Nat.zero_le _) ?_ ?_
    · simp (config := {contextual := true}) [idTo, noW, fstNodup, cV, cE, cL, cLs, cVs, cView, cEnt, cRow, look, Row.z, Row.n, Row.at, Ent.w, Ent.m, Ent.row, lessP, rg, List.replicate_succ, lastV]
    intro i hi
    simp only [rg, List.replicate_succ, List.replicate_zero, List.set_cons_zero, List.set_cons_succ]
    refine run_ok tok 400 _ _ ?_; simp only [↓reduceIte, run_blk, run_back, run_opsNil, run_op, run_skip, run_seq, run_block, run_cond, run_exit, run_region, dop, ev, ofV, ofLeaf, put, told, exitT, dBin, dFieldAddr, dIndexAddr, dLen, dBuiltin, dLoad, dBuild, dFill, dBuildSlice, dElems, newRow1, splice, cellsOf, DV.leaf, Row.z, Row.n, Row.at, Ent.w, Ent.m, Ent.row, look, pureP, pureO, newP, tab, TK.agg, List.getD_cons_zero, List.getD_cons_succ, List.set_cons_zero, List.set_cons_succ, Option.map_some, Option.bind_some, Option.join_some, List.getElem?_cons_zero, List.getElem?_cons_succ, Bool.false_eq_true, true_and, and_true, List.length_cons, List.length_nil, Nat.reduceAdd, List.cons_append, List.nil_append, List.append_nil, List.drop_zero, List.drop_succ_cons, List.drop_nil, List.take_zero, List.take_succ_cons, List.take_nil, List.headD_cons, List.map_cons, List.map_nil, List.all_cons, List.all_nil, Bool.and_self, Nat.reduceLeDiff, Nat.zero_lt_succ, Nat.lt_add_one, or_true, Nat.add_zero, Nat.zero_add, List.replicate_succ, List.replicate_zero, Int.toNat_natCast, reduceCtorEq, dAppend, part, srcP, ownB, killX, Nat.reduceMul, Option.isSome_some]
    refine ⟨fun q4 => ?_, fun q4 => ?_⟩ <;> try simp only [decide_eq_true_eq, decide_eq_false_iff_not] at q4
    · have hw2 : IntKind.i64.wrap ((i : Int) + 1) = ((i + 1 : Nat) : Int) := by rw [IntKind.wrap_i64]; omega
      refine ⟨⟨by omega, by omega⟩, by omega, ?_⟩
      refine ⟨fun q5 => ?_, fun q5 => ?_⟩ <;> try simp only [decide_eq_true_eq, decide_eq_false_iff_not] at q5
      · refine ⟨⟨by omega, by omega⟩, by omega, i + 1, [(0, 0), (1, 0), (2, 0)], by omega, by omega, ?_⟩
        simp (config := {contextual := true}) [idTo, noW, fstNodup, cV, cE, cL, cLs, cVs, cView, cEnt, cRow, look, Row.z, Row.n, Row.at, Ent.w, Ent.m, Ent.row, lessP, hw2, lastV, q5]
      · refine ⟨i + 1, [(0, 0), (1, 0), (2, 0)], by omega, by omega, ?_⟩
        simp (config := {contextual := true}) [idTo, noW, fstNodup, cV, cE, cL, cLs, cVs, cView, cEnt, cRow, look, Row.z, Row.n, Row.at, Ent.w, Ent.m, Ent.row, lessP, hw2, lastV, q5]
    · obtain rfl : i = m := by omega
      have hv : lastV i g' h' k (getV n g h k) = putV n g h i g' h' k := rfl
      rw [hv]
      refine ⟨fun q6 => ?_, fun q6 => ?_⟩ <;> try simp only [decide_eq_true_eq, decide_eq_false_iff_not, Decidable.not_not, ne_eq] at q6
      · have hp : putL n g h i g' h' (k + 1) = putL n g h i g' h' k ++ [((k : Int), putV n g h i g' h' k)] := if_neg q6
        refine ⟨⟨by omega, fun q hq => by (obtain rfl : q = 0 := by omega); rfl, by omega, by omega⟩, k + 1, [(0, 0), (1, 0), (4, 0)], by omega, by omega, ?_⟩
        rw [hp]
        simp (config := {contextual := true}) [le_capJ, idTo, noW, fstNodup, cV, cE, cL, cLs, cVs, cView, cEnt, cRow, look, Row.z, Row.n, Row.at, Ent.w, Ent.m, Ent.row, lessP, hw]
        intro j hj
        by_cases h8 : j < (putL n g h i g' h' k).length
        · simp [joined, h8, cLs, cL, pg_lt]
        · obtain rfl : j = (putL n g h i g' h' k).length := by omega
          simp [joined, cLs, cL, pg_at]
      · have hp : putL n g h i g' h' (k + 1) = putL n g h i g' h' k := if_pos q6
        refine ⟨k + 1, [(0, 0), (1, 0), (2, 0)], by omega, by omega, ?_⟩
        rw [hp]
        simp (config := {contextual := true}) [idTo, noW, fstNodup, cV, cE, cL, cLs, cVs, cView, cEnt, cRow, look, Row.z, Row.n, Row.at, Ent.w, Ent.m, Ent.row, lessP, hw]
  obtain rfl : k = 40 := by omega
  refine Out.of [(0, 0), (1, 0), (2, 0)] ?_; simp (config := {contextual := true}) [outP, outOf, resL, idTo, noW, fstNodup, cV, cE, cL, cLs, cView, cEnt, cRow, look, Row.z, Row.n, Row.at, Ent.w, Ent.m, Ent.row]
end Go.Proofs.YtaklcaejeaiagaaE
