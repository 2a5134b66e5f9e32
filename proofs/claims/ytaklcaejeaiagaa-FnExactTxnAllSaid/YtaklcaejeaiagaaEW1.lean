/- A part of the proof of a law of the given program: contracts of functions. No condition of its own. -/
import Derived.Test.YtaklcaejeaiagaaECU16
import Derived.Test.YtaklcaejeaiagaaECU8
namespace Go.Proofs.YtaklcaejeaiagaaE
open Go.Proofs
set_option maxRecDepth 100000
abbrev arrI (l : List Int) : Option Ent := some (.one true (.arr 1 l.length (rowI l)))
def fG (a : Nat → Int) (s : List Int) : Nat → List Int
  | 0 => s
  | i + 1 => addL (a i) (fG a s i)
def fW (d e : Nat → Int) (s : List Int) : Nat → List Int
  | 0 => s
  | i + 1 => if 0 ≤ e i then addL (e i) (addL (d i) (fW d e s i)) else addL (d i) (fW d e s i)
theorem fG_len (a : Nat → Int) (s : List Int) : ∀ n, (fG a s n).length ≤ s.length + n
  | 0 => Nat.le_refl _
  | n + 1 => by have := fG_len a s n; have := addL_len (a n) (fG a s n); simp only [fG]; omega
theorem fW_len (d e : Nat → Int) (s : List Int) : ∀ n, (fW d e s n).length ≤ s.length + 2 * n
  | 0 => Nat.le_refl _
  | n + 1 => by
    have := fW_len d e s n
    have := addL_len (d n) (fW d e s n)
    have := addL_len (e n) (addL (d n) (fW d e s n))
    simp only [fW]; split <;> omega
/-- All keys that a transaction in form names, in order. -/
def allS (bb : Bool) (n1 n2 n3 : Nat) (a d e r : Nat → Int) : List Int := if bb then fG r (fW d e (fG a [] n1) n2) n3 else []
set_option maxHeartbeats 8000000 in
theorem t20 (n1 n2 n3 p1 p2 p3 : Nat) (h1 : n1 ≤ 1048576) (h2 : n2 ≤ 1048576) (h3 : n3 ≤ 1048576) (a b c d e f r : Nat → Int) (bb : Bool) (hbb : bb = true ↔ okTxn n1 n2 n3 a b c d e f r) :
   Tri Try.prog 20 [.agg [.sl 0 0 0 n1 p1, .sl 1 0 0 n2 p2, .sl 2 0 0 n3 p3]] (hpT n1 n2 n3 a b c d e f r)
   (.sl 3 0 0 (allS bb n1 n2 n3 a d e r).length (allS bb n1 n2 n3 a d e r).length) (hpT n1 n2 n3 a b c d e f r ++ [arrI (allS bb n1 n2 n3 a d e r)]) := by
  refine Tri.of tok Try.func20 rfl ?_; simp only [Try.ntmps20, Try.results20, List.length_cons, List.length_nil, Nat.reduceAdd, Nat.reduceSub, List.replicate_succ, List.replicate_zero, List.cons_append, List.nil_append]; refine run_ok tok 400 _ _ ?_; simp only [↓reduceIte, run_opsNil, run_op, run_seq, run_region, dop, ev, ofV, ofLeaf, put, dBox, dLoad, dBuildSlice, dElems, newRow1, cellsOf, DV.leaf, Row.z, Row.n, Row.at, Ent.m, Ent.row, look, pureP, newP, tab, TK.agg, List.getD_cons_zero, List.getD_cons_succ, List.set_cons_zero, List.set_cons_succ, Option.map_some, Option.join_some, List.getElem?_cons_zero, List.getElem?_cons_succ, true_and, and_true, List.length_cons, List.length_nil, Nat.reduceAdd, List.cons_append, List.nil_append, List.drop_zero, List.take_succ_cons, List.take_nil, List.map_nil, List.all_cons, List.all_nil, Bool.and_self, Nat.reduceLeDiff, Nat.lt_add_one, true_or, Nat.zero_add, List.replicate_zero, Nat.reduceEqDiff, Nat.zero_mul, Nat.zero_le]
  refine D.call Try.func61 [(0, 0), (1, 0), (2, 0)] (t61 n1 n2 n3 p1 p2 p3 h1 h2 h3 a b c d e f r bb hbb) ?_; simp only [↓reduceIte, callP, callOk, wOk, jsOf, noW, fstNodup, allW, sig, renV, renE, renL, afterH, backH, capV, cV, cE, cL, cLs, cVs, cView, cEnt, cRow, ev, look, Row.z, Row.n, Row.at, Ent.w, Ent.m, Ent.row, put, List.lookup_nil, Bool.or_true, Bool.or_false, Bool.and_true, Bool.and_false, Bool.not_false, beq_self_eq_true, List.any_cons, List.any_nil, List.all_cons, List.all_nil, List.getD_cons_zero, List.getD_cons_succ, List.set_cons_zero, List.set_cons_succ, List.getElem?_cons_zero, List.getElem?_cons_succ, List.length_cons, List.length_nil, List.drop_succ_cons, List.drop_nil, List.map_cons, List.map_nil, List.append_nil, Option.join_some, Nat.reduceAdd, Nat.reduceLT, Nat.reduceBEq, Nat.lt_add_one, Nat.zero_lt_succ, Nat.add_zero, Nat.zero_add, Nat.le_refl, decide_true, true_and, and_true, and_self, implies_true, imp_self, Bool.false_eq_true]; refine run_ok tok 400 _ _ ?_; simp only [run_opsNil, run_op, run_skip, run_seq, run_block, run_cond, run_ret, run_region, run_loop, dop, ev, ofV, ofLeaf, put, told, dUn, pureO, List.getD_cons_zero, List.getD_cons_succ, List.set_cons_zero, List.set_cons_succ, Option.map_some, true_and]
  refine ⟨fun q0 => ?_, fun q0 => ?_⟩ <;> try simp only [Bool.not_eq_true', Bool.not_eq_false'] at q0
  · subst q0
    refine Out.of [(0, 0), (1, 0), (2, 0), (4, 0)] ?_; simp (config := {contextual := true}) [outP, outOf, resL, idTo, noW, fstNodup, cV, cE, cL, cLs, cView, cEnt, cRow, look, Row.z, Row.n, Row.at, Ent.w, Ent.m, Ent.row, allS]
  subst q0
  obtain ⟨k1, k2, k3, _⟩ := hbb.1 rfl
  simp only [allS, if_true]
  refine D.loopI (fun k : Nat => ⟨rg 72 [(1, .ptr 3 0 0 0), (3, .sl 4 0 0 (fG a [] k).length (fG a [] k).length), (4, .i64 k)], [some (.one false (.arr 3 n1 (row3 a b c))), some (.one false (.arr 3 n2 (row3 d e f))), some (.one false (.arr 1 n3 (row1 r))), some (.one true (.lst 3 [[.sl 0 0 0 n1 p1, .sl 1 0 0 n2 p2, .sl 2 0 0 n3 p3]])), arrI (fG a [] k)]⟩) (fun k => k ≤ n1) (fun k => n1 - k) 0 [(0, 0), (1, 0), (2, 0), (3, 0), (4, 0)] (Nat.zero_le _) ?_ ?_
  · simp (config := {contextual := true}) [idTo, noW, fstNodup, cV, cE, cL, cLs, cVs, cView, cEnt, cRow, cEls, look, Row.z, Row.n, Row.at, Ent.w, Ent.m, Ent.row, lessP, rg, List.replicate_succ, fG]
  intro k hk
  have hkl := fG_len a [] k
  simp only [rg, List.replicate_succ, List.replicate_zero, List.set_cons_zero, List.set_cons_succ]
  simp only [List.length_nil] at hkl
  have hadd := addL_len (a k) (fG a [] k)
  by_cases q : k < n1
  · have hw : IntKind.i64.wrap ((k : Int) + 1) = ((k + 1 : Nat) : Int) := by rw [IntKind.wrap_i64]; omega
    have hs : fG a [] (k + 1) = addL (a k) (fG a [] k) := rfl
    generalize fG a [] k = o at hkl hadd hs ⊢
    refine run_ok tok 400 _ _ ?_; simp only [↓reduceIte, run_opsNil, run_op, run_skip, run_seq, run_block, run_cond, run_exit, run_region, run_loop, dop, ev, ofV, ofLeaf, put, told, exitT, dBin, dFieldAddr, dIndexAddr, dLen, dBuiltin, dLoad, Row.z, Row.n, Row.at, Ent.m, Ent.row, look, pureP, pureO, tab, TK.agg, List.getD_cons_zero, List.getD_cons_succ, List.set_cons_zero, List.set_cons_succ, Option.map_some, Option.join_some, List.getElem?_cons_zero, List.getElem?_cons_succ, Bool.false_eq_true, true_and, and_true, List.length_cons, List.length_nil, List.drop_zero, List.take_zero, List.take_succ_cons, List.headD_cons, List.map_cons, List.map_nil, Nat.reduceLeDiff, Nat.lt_add_one, or_true, Nat.add_zero, Nat.zero_add, Int.toNat_natCast, reduceCtorEq]
    refine ⟨fun q1 => ?_, fun q1 => ?_⟩ <;> try simp only [decide_eq_true_eq, decide_eq_false_iff_not] at q1
    · refine ⟨⟨by omega, by omega⟩, q, ?_⟩
      refine D.call Try.func62 [(4, 0)] (t62 o (by omega) o.length (a k)) ?_; simp only [↓reduceIte, callP, callOk, wOk, jsOf, noW, fstNodup, allW, sig, sigma, renV, renE, renL, afterH, backH, Row.ren, Ent.ren, capV, cV, cE, cL, cLs, cVs, cView, cEnt, cRow, ev, look, Row.z, Row.n, Row.at, Ent.w, Ent.m, Ent.row, put, List.lookup_nil, Bool.or_true, Bool.or_false, Bool.and_true, Bool.and_false, Bool.not_false, beq_self_eq_true, List.any_nil, List.all_cons, List.all_nil, List.getD_cons_zero, List.getD_cons_succ, List.set_cons_zero, List.set_cons_succ, List.getElem?_cons_zero, List.getElem?_cons_succ, List.length_cons, List.length_nil, List.drop_zero, List.drop_succ_cons, List.map_cons, List.map_nil, List.cons_append, List.nil_append, List.append_nil, Option.map_some, Option.join_some, Nat.reduceAdd, Nat.reduceSub, Nat.lt_add_one, Nat.add_zero, Nat.zero_add, Nat.le_refl, decide_true, true_and, and_true, and_self, implies_true, imp_self, Bool.false_eq_true, Nat.lt_irrefl]; refine run_ok tok 400 _ _ ?_; simp only [↓reduceIte, run_blk, run_back, run_opsNil, run_op, run_region, dop, ev, ofV, ofLeaf, put, dBin, pureP, List.getD_cons_zero, List.getD_cons_succ, List.set_cons_zero, List.set_cons_succ, Option.map_some, true_and]
      refine ⟨k + 1, [(0, 0), (1, 0), (2, 0), (3, 0), (5, 0)], by omega, by omega, ?_⟩
      rw [hs]
      simp (config := {contextual := true}) [idTo, noW, fstNodup, cV, cE, cL, cLs, cVs, cView, cEnt, cRow, cEls, look, Row.z, Row.n, Row.at, Ent.w, Ent.m, Ent.row, lessP, hw]
    · omega
  obtain rfl : n1 = k := by omega
  clear hadd
  generalize fG a [] n1 = s1 at hkl ⊢
  refine run_ok tok 400 _ _ ?_; simp only [↓reduceIte, run_opsNil, run_op, run_skip, run_seq, run_block, run_cond, run_exit, run_region, run_loop, dop, ev, ofV, ofLeaf, put, told, exitT, dBin, dFieldAddr, dIndexAddr, dLen, dBuiltin, dLoad, Row.z, Row.n, Row.at, Ent.m, Ent.row, look, pureP, pureO, tab, TK.agg, List.getD_cons_zero, List.getD_cons_succ, List.set_cons_zero, List.set_cons_succ, Option.map_some, Option.join_some, List.getElem?_cons_zero, List.getElem?_cons_succ, Bool.false_eq_true, true_and, and_true, List.length_cons, List.length_nil, List.drop_zero, List.take_zero, List.take_succ_cons, List.headD_cons, List.map_cons, List.map_nil, Nat.lt_irrefl, Nat.reduceLeDiff, Nat.lt_add_one, or_true, Nat.add_zero, Nat.zero_add, Int.toNat_natCast, reduceCtorEq]
  refine ⟨fun q1 => ?_, fun q1 => ?_⟩ <;> try simp only [decide_eq_true_eq, decide_eq_false_iff_not] at q1
  · omega
  refine D.loopI (fun j : Nat => ⟨rg 72 [(1, .ptr 3 0 0 0), (3, .sl 4 0 0 (fW d e s1 j).length (fW d e s1 j).length), (5, .i64 j)], [some (.one false (.arr 3 n1 (row3 a b c))), some (.one false (.arr 3 n2 (row3 d e f))), some (.one false (.arr 1 n3 (row1 r))), some (.one true (.lst 3 [[.sl 0 0 0 n1 p1, .sl 1 0 0 n2 p2, .sl 2 0 0 n3 p3]])), arrI (fW d e s1 j)]⟩) (fun j => j ≤ n2) (fun j => n2 - j) 0 [(0, 0), (1, 0), (2, 0), (3, 0), (4, 0)] (Nat.zero_le _) ?_ ?_
  · simp (config := {contextual := true}) [idTo, noW, fstNodup, cV, cE, cL, cLs, cVs, cView, cEnt, cRow, cEls, look, Row.z, Row.n, Row.at, Ent.w, Ent.m, Ent.row, lessP, rg, List.replicate_succ, fW]
  intro j hj
  have hjl := fW_len d e s1 j
  simp only [rg, List.replicate_succ, List.replicate_zero, List.set_cons_zero, List.set_cons_succ]
  have ha1 := addL_len (d j) (fW d e s1 j)
  have ha2 := addL_len (e j) (addL (d j) (fW d e s1 j))
  by_cases q : j < n2
  · have hw : IntKind.i64.wrap ((j : Int) + 1) = ((j + 1 : Nat) : Int) := by rw [IntKind.wrap_i64]; omega
    have hs : fW d e s1 (j + 1) = if 0 ≤ e j then addL (e j) (addL (d j) (fW d e s1 j)) else addL (d j) (fW d e s1 j) := rfl
    generalize fW d e s1 j = o at hjl ha1 ha2 hs ⊢
    refine run_ok tok 400 _ _ ?_; simp only [↓reduceIte, run_opsNil, run_op, run_skip, run_seq, run_block, run_cond, run_exit, run_region, run_loop, dop, ev, ofV, ofLeaf, put, told, exitT, dBin, dFieldAddr, dIndexAddr, dLen, dBuiltin, dLoad, Row.z, Row.n, Row.at, Ent.m, Ent.row, look, pureP, pureO, tab, TK.agg, List.getD_cons_zero, List.getD_cons_succ, List.set_cons_zero, List.set_cons_succ, Option.map_some, Option.join_some, List.getElem?_cons_zero, List.getElem?_cons_succ, Bool.false_eq_true, true_and, and_true, List.length_cons, List.length_nil, Nat.reduceAdd, List.drop_zero, List.drop_succ_cons, List.take_zero, List.take_succ_cons, List.headD_cons, List.map_cons, List.map_nil, Nat.reduceLeDiff, Nat.lt_add_one, or_true, Nat.add_zero, Nat.zero_add, Int.toNat_natCast, reduceCtorEq]
    refine ⟨fun q2 => ?_, fun q2 => ?_⟩ <;> try simp only [decide_eq_true_eq, decide_eq_false_iff_not] at q2
    · refine ⟨⟨by omega, by omega⟩, q, ?_⟩
      refine D.call Try.func62 [(4, 0)] (t62 o (by omega) o.length (d j)) ?_; simp only [↓reduceIte, callP, callOk, wOk, jsOf, noW, fstNodup, allW, sig, sigma, renV, renE, renL, afterH, backH, Row.ren, Ent.ren, capV, cV, cE, cL, cLs, cVs, cView, cEnt, cRow, ev, look, Row.z, Row.n, Row.at, Ent.w, Ent.m, Ent.row, put, List.lookup_nil, Bool.or_true, Bool.or_false, Bool.and_true, Bool.and_false, Bool.not_false, beq_self_eq_true, List.any_nil, List.all_cons, List.all_nil, List.getD_cons_zero, List.getD_cons_succ, List.set_cons_zero, List.set_cons_succ, List.getElem?_cons_zero, List.getElem?_cons_succ, List.length_cons, List.length_nil, List.drop_zero, List.drop_succ_cons, List.map_cons, List.map_nil, List.cons_append, List.nil_append, List.append_nil, Option.map_some, Option.join_some, Nat.reduceAdd, Nat.reduceSub, Nat.lt_add_one, Nat.add_zero, Nat.zero_add, Nat.le_refl, decide_true, true_and, and_true, and_self, implies_true, imp_self, Bool.false_eq_true, Nat.lt_irrefl]; refine run_ok tok 400 _ _ ?_; simp only [↓reduceIte, run_blk, run_back, run_opsNil, run_op, run_skip, run_seq, run_cond, run_region, dop, ev, ofV, ofLeaf, put, told, dBin, dFieldAddr, dIndexAddr, dLoad, Row.z, Row.n, Row.at, Ent.m, Ent.row, look, pureP, pureO, tab, TK.agg, List.getD_cons_zero, List.getD_cons_succ, List.set_cons_zero, List.set_cons_succ, Option.map_some, Option.join_some, List.getElem?_cons_zero, List.getElem?_cons_succ, Bool.false_eq_true, true_and, and_true, List.length_cons, List.length_nil, Nat.reduceAdd, List.drop_zero, List.drop_succ_cons, List.take_zero, List.take_succ_cons, List.headD_cons, Nat.reduceLeDiff, Nat.lt_add_one, or_true, Nat.zero_add, Int.toNat_natCast, reduceCtorEq]
      refine ⟨⟨by omega, by omega⟩, q, ?_⟩
      refine ⟨fun q3 => ?_, fun q3 => ?_⟩ <;> try simp only [decide_eq_true_eq, decide_eq_false_iff_not] at q3
      · rw [if_pos q3] at hs
        refine ⟨⟨by omega, by omega⟩, q, ?_⟩
        refine D.call Try.func62 [(5, 0)] (t62 (addL (d j) o) (by omega) (addL (d j) o).length (e j)) ?_; simp only [↓reduceIte, callP, callOk, wOk, jsOf, noW, fstNodup, allW, sig, sigma, renV, renE, renL, afterH, backH, Row.ren, Ent.ren, capV, cV, cE, cL, cLs, cVs, cView, cEnt, cRow, ev, look, Row.z, Row.n, Row.at, Ent.w, Ent.m, Ent.row, put, List.lookup_nil, Bool.or_true, Bool.or_false, Bool.and_true, Bool.and_false, Bool.not_false, beq_self_eq_true, List.any_nil, List.all_cons, List.all_nil, List.getD_cons_zero, List.getD_cons_succ, List.set_cons_zero, List.set_cons_succ, List.getElem?_cons_zero, List.getElem?_cons_succ, List.length_cons, List.length_nil, List.drop_zero, List.drop_succ_cons, List.map_cons, List.map_nil, List.cons_append, List.nil_append, List.append_nil, Option.map_some, Option.join_some, Nat.reduceAdd, Nat.reduceSub, Nat.lt_add_one, Nat.add_zero, Nat.zero_add, Nat.le_refl, decide_true, true_and, and_true, and_self, implies_true, imp_self, Bool.false_eq_true, Nat.lt_irrefl]; refine run_ok tok 400 _ _ ?_; simp only [↓reduceIte, run_blk, run_back, run_opsNil, run_op, run_region, dop, ev, ofV, ofLeaf, put, dBin, pureP, List.getD_cons_zero, List.getD_cons_succ, List.set_cons_zero, List.set_cons_succ, Option.map_some, true_and]
        refine ⟨j + 1, [(0, 0), (1, 0), (2, 0), (3, 0), (6, 0)], by omega, by omega, ?_⟩
        rw [hs]
        simp (config := {contextual := true}) [idTo, noW, fstNodup, cV, cE, cL, cLs, cVs, cView, cEnt, cRow, cEls, look, Row.z, Row.n, Row.at, Ent.w, Ent.m, Ent.row, lessP, hw]
      · rw [if_neg q3] at hs
        refine ⟨j + 1, [(0, 0), (1, 0), (2, 0), (3, 0), (5, 0)], by omega, by omega, ?_⟩
        rw [hs]
        simp (config := {contextual := true}) [idTo, noW, fstNodup, cV, cE, cL, cLs, cVs, cView, cEnt, cRow, cEls, look, Row.z, Row.n, Row.at, Ent.w, Ent.m, Ent.row, lessP, hw]
    · omega
  obtain rfl : n2 = j := by omega
  clear ha1 ha2
  generalize fW d e s1 n2 = s2 at hjl ⊢
  refine run_ok tok 400 _ _ ?_; simp only [↓reduceIte, run_opsNil, run_op, run_skip, run_seq, run_block, run_cond, run_exit, run_region, run_loop, dop, ev, ofV, ofLeaf, put, told, exitT, dBin, dFieldAddr, dIndexAddr, dLen, dBuiltin, dLoad, Row.z, Row.n, Row.at, Ent.m, Ent.row, look, pureP, pureO, tab, TK.agg, List.getD_cons_zero, List.getD_cons_succ, List.set_cons_zero, List.set_cons_succ, Option.map_some, Option.join_some, List.getElem?_cons_zero, List.getElem?_cons_succ, Bool.false_eq_true, true_and, and_true, List.length_cons, List.length_nil, Nat.reduceAdd, List.drop_zero, List.drop_succ_cons, List.take_zero, List.take_succ_cons, List.headD_cons, List.map_cons, List.map_nil, Nat.lt_irrefl, Nat.reduceLeDiff, Nat.lt_add_one, or_true, Nat.add_zero, Nat.zero_add, Int.toNat_natCast, reduceCtorEq]
  refine ⟨fun q2 => ?_, fun q2 => ?_⟩ <;> try simp only [decide_eq_true_eq, decide_eq_false_iff_not] at q2
  · omega
  refine D.loopI (fun i : Nat => ⟨rg 72 [(1, .ptr 3 0 0 0), (3, .sl 4 0 0 (fG r s2 i).length (fG r s2 i).length), (6, .i64 i)], [some (.one false (.arr 3 n1 (row3 a b c))), some (.one false (.arr 3 n2 (row3 d e f))), some (.one false (.arr 1 n3 (row1 r))), some (.one true (.lst 3 [[.sl 0 0 0 n1 p1, .sl 1 0 0 n2 p2, .sl 2 0 0 n3 p3]])), arrI (fG r s2 i)]⟩) (fun i => i ≤ n3) (fun i => n3 - i) 0 [(0, 0), (1, 0), (2, 0), (3, 0), (4, 0)] (Nat.zero_le _) ?_ ?_
  · simp (config := {contextual := true}) [idTo, noW, fstNodup, cV, cE, cL, cLs, cVs, cView, cEnt, cRow, cEls, look, Row.z, Row.n, Row.at, Ent.w, Ent.m, Ent.row, lessP, rg, List.replicate_succ, fG]
  intro i hi
  have hil := fG_len r s2 i
  simp only [rg, List.replicate_succ, List.replicate_zero, List.set_cons_zero, List.set_cons_succ]
  have hadd := addL_len (r i) (fG r s2 i)
  by_cases q : i < n3
  · have hw : IntKind.i64.wrap ((i : Int) + 1) = ((i + 1 : Nat) : Int) := by rw [IntKind.wrap_i64]; omega
    have hs : fG r s2 (i + 1) = addL (r i) (fG r s2 i) := rfl
    generalize fG r s2 i = o at hil hadd hs ⊢
    refine run_ok tok 400 _ _ ?_; simp only [↓reduceIte, run_opsNil, run_op, run_skip, run_seq, run_block, run_cond, run_exit, run_ret, run_region, dop, ev, put, told, exitT, dBin, dFieldAddr, dIndexAddr, dLen, dBuiltin, dLoad, Row.z, Row.n, Row.at, Ent.m, Ent.row, look, pureP, pureO, tab, TK.agg, List.getD_cons_zero, List.getD_cons_succ, List.set_cons_zero, List.set_cons_succ, Option.map_some, Option.join_some, List.getElem?_cons_zero, List.getElem?_cons_succ, Bool.false_eq_true, true_and, and_true, List.length_cons, List.length_nil, Nat.reduceAdd, List.drop_zero, List.drop_succ_cons, List.take_succ_cons, List.take_nil, List.headD_cons, List.map_cons, List.map_nil, Nat.reduceLeDiff, Nat.lt_add_one, or_true, Nat.zero_add, Int.toNat_natCast, reduceCtorEq]
    refine ⟨fun q3 => ?_, fun q3 => ?_⟩ <;> try simp only [decide_eq_true_eq, decide_eq_false_iff_not] at q3
    · refine ⟨⟨by omega, by omega⟩, q, ?_⟩
      refine D.call Try.func62 [(4, 0)] (t62 o (by omega) o.length (r i)) ?_; simp only [↓reduceIte, callP, callOk, wOk, jsOf, noW, fstNodup, allW, sig, sigma, renV, renE, renL, afterH, backH, Row.ren, Ent.ren, capV, cV, cE, cL, cLs, cVs, cView, cEnt, cRow, ev, look, Row.z, Row.n, Row.at, Ent.w, Ent.m, Ent.row, put, List.lookup_nil, Bool.or_true, Bool.or_false, Bool.and_true, Bool.and_false, Bool.not_false, beq_self_eq_true, List.any_nil, List.all_cons, List.all_nil, List.getD_cons_zero, List.getD_cons_succ, List.set_cons_zero, List.set_cons_succ, List.getElem?_cons_zero, List.getElem?_cons_succ, List.length_cons, List.length_nil, List.drop_zero, List.drop_succ_cons, List.map_cons, List.map_nil, List.cons_append, List.nil_append, List.append_nil, Option.map_some, Option.join_some, Nat.reduceAdd, Nat.reduceSub, Nat.lt_add_one, Nat.add_zero, Nat.zero_add, Nat.le_refl, decide_true, true_and, and_true, and_self, implies_true, imp_self, Bool.false_eq_true, Nat.lt_irrefl]; refine run_ok tok 400 _ _ ?_; simp only [↓reduceIte, run_blk, run_back, run_opsNil, run_op, run_region, dop, ev, ofV, ofLeaf, put, dBin, pureP, List.getD_cons_zero, List.getD_cons_succ, List.set_cons_zero, List.set_cons_succ, Option.map_some, true_and]
      refine ⟨i + 1, [(0, 0), (1, 0), (2, 0), (3, 0), (5, 0)], by omega, by omega, ?_⟩
      rw [hs]
      simp (config := {contextual := true}) [idTo, noW, fstNodup, cV, cE, cL, cLs, cVs, cView, cEnt, cRow, cEls, look, Row.z, Row.n, Row.at, Ent.w, Ent.m, Ent.row, lessP, hw]
    · omega
  obtain rfl : n3 = i := by omega
  refine run_ok tok 400 _ _ ?_; simp only [↓reduceIte, run_opsNil, run_op, run_skip, run_seq, run_block, run_cond, run_exit, run_ret, run_region, dop, ev, put, told, exitT, dBin, dFieldAddr, dIndexAddr, dLen, dBuiltin, dLoad, Row.z, Row.n, Row.at, Ent.m, Ent.row, look, pureP, pureO, tab, TK.agg, List.getD_cons_zero, List.getD_cons_succ, List.set_cons_zero, List.set_cons_succ, Option.map_some, Option.join_some, List.getElem?_cons_zero, List.getElem?_cons_succ, Bool.false_eq_true, true_and, and_true, List.length_cons, List.length_nil, Nat.reduceAdd, List.drop_zero, List.drop_succ_cons, List.take_succ_cons, List.take_nil, List.headD_cons, List.map_cons, List.map_nil, Nat.lt_irrefl, Nat.reduceLeDiff, Nat.lt_add_one, or_true, Nat.zero_add, Int.toNat_natCast, reduceCtorEq]
  refine ⟨fun q3 => ?_, fun q3 => ?_⟩ <;> try simp only [decide_eq_true_eq, decide_eq_false_iff_not] at q3
  · omega
  refine Out.of [(0, 0), (1, 0), (2, 0), (4, 0)] ?_; simp (config := {contextual := true}) [outP, outOf, resL, idTo, noW, fstNodup, cV, cE, cL, cLs, cView, cEnt, cRow, look, Row.z, Row.n, Row.at, Ent.w, Ent.m, Ent.row]
end Go.Proofs.YtaklcaejeaiagaaE
