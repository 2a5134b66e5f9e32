/- A part of the proof of a law of the given program: contracts of functions. No condition of its own. -/
import Derived.Test.YtaklcaejeaiagaaEW1
import Derived.Test.YtaklcaejeaiagaaEW2
import Derived.Test.YtaklcaejeaiagaaES10
import Derived.Test.YtaklcaejeaiagaaEG4
namespace Go.Proofs.YtaklcaejeaiagaaE
open Go.Proofs
set_option maxRecDepth 100000
def aG (a : Nat → Int) (s : List Int) : Nat → List Int
  | 0 => s
  | i + 1 => aG a s i ++ [a i]
def aW (d e : Nat → Int) (s : List Int) : Nat → List Int
  | 0 => s
  | i + 1 => if 0 ≤ e i then (aW d e s i ++ [d i]) ++ [e i] else aW d e s i ++ [d i]
theorem aG_len (a : Nat → Int) (s : List Int) : ∀ n, (aG a s n).length = s.length + n
  | 0 => rfl
  | n + 1 => by have := aG_len a s n; simp only [aG, List.length_append, List.length_cons, List.length_nil]; omega
theorem aW_len (d e : Nat → Int) (s : List Int) : ∀ n, s.length + n ≤ (aW d e s n).length ∧ (aW d e s n).length ≤ s.length + 2 * n
  | 0 => ⟨Nat.le_refl _, Nat.le_refl _⟩
  | n + 1 => by have := aW_len d e s n; simp only [aW]; split <;> simp only [List.length_append, List.length_cons, List.length_nil] <;> omega
theorem aG_get (a : Nat → Int) : ∀ (n i : Nat), i < n → (aG a [] n).getD i 0 = a i
  | 0, _, h => by omega
  | n + 1, i, h => by
    simp only [aG]
    have hl := aG_len a [] n
    simp only [List.length_nil, Nat.zero_add] at hl
    by_cases hi : i < n
    · rw [List.getD_eq_getElem?_getD, List.getElem?_append_left (by omega), ← List.getD_eq_getElem?_getD]; exact aG_get a n i hi
    · obtain rfl : i = n := by omega
      rw [List.getD_eq_getElem?_getD, List.getElem?_append_right (by omega), hl]; simp
/-- What stands there ahead of the sort. -/
def allO (n1 n2 n3 : Nat) (a d e r : Nat → Int) : List Int := aW d e (aG a (aG r [] n3) n1) n2
def allI (bb : Bool) (n1 n2 n3 : Nat) (a d e r : Nat → Int) : List Int := if bb then cmpL (sortN (allO n1 n2 n3 a d e r)) else []
theorem cmpL_len (l : List Int) : (cmpL l).length ≤ l.length := cmpT_len l _
set_option maxHeartbeats 8000000 in
theorem t22 (n1 n2 n3 p1 p2 p3 : Nat) (h1 : n1 ≤ 1048576) (h2 : n2 ≤ 1048576) (h3 : n3 ≤ 1048576) (a b c d e f r : Nat → Int) (bb : Bool) (hbb : bb = true ↔ okTxn n1 n2 n3 a b c d e f r) :
   Tri Try.prog 22 [.agg [.sl 0 0 0 n1 p1, .sl 1 0 0 n2 p2, .sl 2 0 0 n3 p3]] (hpT n1 n2 n3 a b c d e f r)
   (.sl 3 0 0 (allI bb n1 n2 n3 a d e r).length (allI bb n1 n2 n3 a d e r).length) (hpT n1 n2 n3 a b c d e f r ++ [arrI (allI bb n1 n2 n3 a d e r)]) := by
  refine Tri.of tok Try.func22 rfl ?_; refine D.ghost 1 (fun _ => []) ?_; simp only [Try.ntmps22, Try.results22, List.length_cons, List.length_nil, Nat.reduceAdd, Nat.reduceSub, List.replicate_succ, List.replicate_zero, List.cons_append, List.nil_append]; refine run_ok tok 400 _ _ ?_; simp only [↓reduceIte, run_opsNil, run_op, run_seq, run_region, dop, ev, ofV, ofLeaf, put, dBox, dLoad, newRow1, cellsOf, DV.leaf, Row.z, Row.n, Row.at, Ent.m, Ent.row, look, pureP, newP, tab, TK.agg, List.getD_cons_zero, List.getD_cons_succ, List.set_cons_zero, List.set_cons_succ, Option.map_some, Option.join_some, List.getElem?_cons_zero, List.getElem?_cons_succ, true_and, and_true, List.length_cons, List.length_nil, Nat.reduceAdd, List.cons_append, List.nil_append, List.drop_zero, List.take_succ_cons, List.take_nil, List.all_cons, List.all_nil, Bool.and_self, Nat.reduceLeDiff, Nat.lt_add_one, true_or, Nat.zero_add, Nat.reduceEqDiff]
  refine D.call Try.func66 [(0, 0), (1, 0), (2, 0)] (t66 n1 n2 n3 p1 p2 p3 h1 h2 h3 a b c d e f r bb hbb) ?_; simp only [↓reduceIte, callP, callOk, wOk, jsOf, noW, fstNodup, allW, sig, renV, renE, renL, afterH, backH, capV, cV, cE, cL, cLs, cVs, cView, cEnt, cRow, ev, look, Row.z, Row.n, Row.at, Ent.w, Ent.m, Ent.row, put, List.lookup_nil, Bool.or_true, Bool.or_false, Bool.and_true, Bool.and_false, Bool.not_false, beq_self_eq_true, List.any_cons, List.any_nil, List.all_cons, List.all_nil, List.getD_cons_zero, List.getD_cons_succ, List.set_cons_zero, List.set_cons_succ, List.getElem?_cons_zero, List.getElem?_cons_succ, List.length_cons, List.length_nil, List.drop_succ_cons, List.drop_nil, List.map_cons, List.map_nil, List.append_nil, Option.join_some, Nat.reduceAdd, Nat.reduceLT, Nat.reduceBEq, Nat.lt_add_one, Nat.zero_lt_succ, Nat.add_zero, Nat.zero_add, Nat.le_refl, decide_true, true_and, and_true, and_self, implies_true, imp_self, Bool.false_eq_true]; refine run_ok tok 400 _ _ ?_; simp only [↓reduceIte, run_opsNil, run_op, run_skip, run_seq, run_cond, run_ret, run_region, dop, ev, ofV, ofLeaf, put, told, dUn, dFieldAddr, dLoad, Row.z, Row.n, Row.at, Ent.m, Ent.row, look, pureP, pureO, tab, TK.agg, List.getD_cons_zero, List.getD_cons_succ, List.set_cons_zero, List.set_cons_succ, Option.map_some, Option.join_some, List.getElem?_cons_zero, List.getElem?_cons_succ, Bool.false_eq_true, true_and, and_true, List.length_cons, List.length_nil, Nat.reduceAdd, List.drop_zero, List.drop_succ_cons, List.take_succ_cons, List.take_nil, List.headD_cons, Nat.reduceLeDiff, Nat.lt_add_one, or_true, Nat.zero_add, reduceCtorEq]
  refine ⟨fun q0 => ?_, fun q0 => ?_⟩ <;> try simp only [Bool.not_eq_true', Bool.not_eq_false'] at q0
  · subst q0
    refine Out.of [(0, 0), (1, 0), (2, 0), (3, 0)] ?_; simp (config := {contextual := true}) [outP, outOf, resL, idTo, noW, fstNodup, cV, cE, cL, cLs, cView, cEnt, cRow, look, Row.z, Row.n, Row.at, Ent.w, Ent.m, Ent.row, allI]
  subst q0
  obtain ⟨k1, k2, k3, kn, _⟩ := hbb.1 rfl
  simp only [allI, if_true]
  refine D.call Try.func67 [(2, 0)] (t67 n3 p3 h3 r) ?_; simp only [↓reduceIte, callP, callOk, wOk, jsOf, noW, fstNodup, allW, sig, sigma, renV, renE, renL, afterH, backH, Row.ren, Ent.ren, capV, cV, cE, cL, cLs, cVs, cView, cEnt, cRow, ev, look, Row.z, Row.n, Row.at, Ent.w, Ent.m, Ent.row, put, List.lookup_nil, Bool.or_true, Bool.or_false, Bool.and_true, Bool.and_false, Bool.not_false, beq_self_eq_true, List.any_nil, List.all_cons, List.all_nil, List.getD_cons_zero, List.getD_cons_succ, List.set_cons_zero, List.set_cons_succ, List.getElem?_cons_zero, List.getElem?_cons_succ, List.length_cons, List.length_nil, List.drop_zero, List.drop_succ_cons, List.map_cons, List.map_nil, List.cons_append, List.nil_append, List.append_nil, Option.map_some, Option.join_some, Nat.reduceAdd, Nat.reduceSub, Nat.reduceLT, Nat.lt_add_one, Nat.add_zero, Nat.zero_add, Nat.le_refl, decide_true, true_and, and_true, and_self, implies_true, imp_self, Bool.false_eq_true, Nat.lt_irrefl]; refine run_ok tok 400 _ _ ?_; simp only [↓reduceIte, run_opsNil, run_op, run_seq, run_block, run_region, run_loop, dop, ev, ofV, ofLeaf, put, dFieldAddr, dLen, dBuiltin, dLoad, Row.z, Row.n, Row.at, Ent.m, Ent.row, look, pureP, pureO, tab, TK.agg, List.getD_cons_zero, List.getD_cons_succ, List.set_cons_zero, List.set_cons_succ, Option.map_some, Option.join_some, List.getElem?_cons_zero, List.getElem?_cons_succ, Bool.false_eq_true, true_and, and_true, List.length_cons, List.length_nil, List.drop_zero, List.take_zero, List.take_succ_cons, List.headD_cons, List.map_cons, List.map_nil, Nat.reduceLeDiff, Nat.lt_add_one, or_true, Nat.add_zero, Nat.zero_add, reduceCtorEq]
  have hl0 := aG_len r [] n3
  simp only [List.length_nil, Nat.zero_add] at hl0
  have hg0 := aG_get r n3
  have hO : allO n1 n2 n3 a d e r = aW d e (aG a (aG r [] n3) n1) n2 := rfl
  rw [hO]
  clear hO
  generalize aG r [] n3 = s0 at hl0 hg0 ⊢
  refine D.loopI (fun k : Nat => ⟨rg 53 [(1, .ptr 4 0 0 0), (3, .sl 5 0 0 (aG a s0 k).length (aG a s0 k).length), (15, .sl 0 0 0 n1 p1), (16, .i64 n1), (17, .i64 k)], [some (.one false (.arr 3 n1 (row3 a b c))), some (.one false (.arr 3 n2 (row3 d e f))), some (.one false (.arr 1 n3 (row1 r))), none, some (.one true (.lst 3 [[.sl 0 0 0 n1 p1, .sl 1 0 0 n2 p2, .sl 2 0 0 n3 p3]])), arrI (aG a s0 k)]⟩) (fun k => k ≤ n1) (fun k => n1 - k) 0 [(0, 0), (1, 0), (2, 0), (3, 0), (4, 0), (5, 0)] (Nat.zero_le _) ?_ ?_
  · simp (config := {contextual := true}) [idTo, noW, fstNodup, cV, cE, cL, cLs, cVs, cView, cEnt, cRow, cEls, look, Row.z, Row.n, Row.at, Ent.w, Ent.m, Ent.row, lessP, rg, List.replicate_succ, aG, hl0]
    intro j hj
    have := hg0 j (by omega)
    rw [List.getD_eq_getElem?_getD, List.getElem?_eq_getElem (by omega)] at this
    exact this.symm
  intro k hk
  have hkl := aG_len a s0 k
  simp only [rg, List.replicate_succ, List.replicate_zero, List.set_cons_zero, List.set_cons_succ]
  by_cases q : k < n1
  · have hw : IntKind.i64.wrap ((k : Int) + 1) = ((k + 1 : Nat) : Int) := by rw [IntKind.wrap_i64]; omega
    have hs : aG a s0 (k + 1) = aG a s0 k ++ [a k] := rfl
    generalize aG a s0 k = o at hkl hs ⊢
    refine run_ok tok 400 _ _ ?_; simp only [↓reduceIte, run_blk, run_back, run_opsNil, run_op, run_skip, run_seq, run_block, run_cond, run_exit, run_region, run_loop, dop, ev, ofV, ofLeaf, put, told, exitT, dBin, dFieldAddr, dIndexAddr, dLen, dBuiltin, dAlloc, dLoad, dStore, dBuildSlice, dElems, newRow1, splice, cellsOf, DV.leaf, Row.z, Row.n, Row.at, Row.upd, Ent.w, Ent.m, Ent.row, Ent.upd, look, pureP, pureO, newP, tab, TK.agg, List.getD_cons_zero, List.getD_cons_succ, List.set_cons_zero, List.set_cons_succ, Option.map_some, Option.join_some, List.getElem?_cons_zero, List.getElem?_cons_succ, Bool.false_eq_true, true_and, and_true, List.length_cons, List.length_nil, Nat.reduceAdd, List.cons_append, List.nil_append, List.append_nil, List.drop_zero, List.drop_succ_cons, List.drop_nil, List.take_zero, List.take_succ_cons, List.take_nil, List.headD_cons, List.map_cons, List.map_nil, List.all_cons, List.all_nil, Bool.and_self, Nat.reduceLeDiff, Nat.zero_lt_succ, Nat.lt_add_one, or_true, true_or, Nat.add_zero, Nat.zero_add, List.replicate_succ, List.replicate_zero, Int.toNat_natCast, reduceCtorEq, Nat.reduceEqDiff, dAppend, part, srcP, ownB, killX, Nat.reduceMul]
    refine ⟨fun q1 => ?_, fun q1 => ?_⟩ <;> try simp only [decide_eq_true_eq, decide_eq_false_iff_not] at q1
    · refine ⟨⟨by omega, by omega⟩, q, ?_⟩
      refine ⟨⟨by omega, fun q hq => by (obtain rfl : q = 0 := by omega); rfl, by omega, by omega⟩, ?_⟩
      refine ⟨k + 1, [(0, 0), (1, 0), (2, 0), (3, 0), (4, 0), (8, 0)], by omega, by omega, ?_⟩
      rw [hs]
      simp (config := {contextual := true}) [le_capJ, idTo, noW, fstNodup, cV, cE, cL, cLs, cVs, cView, cEnt, cRow, cEls, look, Row.z, Row.n, Row.at, Ent.w, Ent.m, Ent.row, lessP, hw]
      intro j hj
      by_cases h8 : j < o.length
      · simp [joined, h8, cLs, cL, List.getElem?_append]
      · obtain rfl : j = o.length := by omega
        simp [joined, cLs, cL]
    · omega
  obtain rfl : n1 = k := by omega
  generalize aG a s0 n1 = s1 at hkl ⊢
  refine run_ok tok 400 _ _ ?_; simp only [↓reduceIte, run_blk, run_back, run_opsNil, run_op, run_skip, run_seq, run_block, run_cond, run_exit, run_region, run_loop, dop, ev, ofV, ofLeaf, put, told, exitT, dBin, dFieldAddr, dIndexAddr, dLen, dBuiltin, dAlloc, dLoad, dStore, dBuildSlice, dElems, newRow1, splice, cellsOf, DV.leaf, Row.z, Row.n, Row.at, Row.upd, Ent.w, Ent.m, Ent.row, Ent.upd, look, pureP, pureO, newP, tab, TK.agg, List.getD_cons_zero, List.getD_cons_succ, List.set_cons_zero, List.set_cons_succ, Option.map_some, Option.join_some, List.getElem?_cons_zero, List.getElem?_cons_succ, Bool.false_eq_true, true_and, and_true, List.length_cons, List.length_nil, Nat.reduceAdd, List.cons_append, List.nil_append, List.append_nil, List.drop_zero, List.drop_succ_cons, List.drop_nil, List.take_zero, List.take_succ_cons, List.take_nil, List.headD_cons, List.map_cons, List.map_nil, List.all_cons, List.all_nil, Bool.and_self, Nat.lt_irrefl, Nat.reduceLeDiff, Nat.zero_lt_succ, Nat.lt_add_one, or_true, true_or, Nat.add_zero, Nat.zero_add, List.replicate_succ, List.replicate_zero, Int.toNat_natCast, reduceCtorEq, Nat.reduceEqDiff, dAppend, part, srcP, ownB, killX, Nat.reduceMul]
  refine ⟨fun q1 => ?_, fun q1 => ?_⟩ <;> try simp only [decide_eq_true_eq, decide_eq_false_iff_not] at q1
  · omega
  refine D.loopI (fun k : Nat => ⟨rg 53 [(1, .ptr 4 0 0 0), (3, .sl 5 0 0 (aW d e s1 k).length (aW d e s1 k).length), (28, .sl 1 0 0 n2 p2), (29, .i64 n2), (30, .i64 k)], [some (.one false (.arr 3 n1 (row3 a b c))), some (.one false (.arr 3 n2 (row3 d e f))), some (.one false (.arr 1 n3 (row1 r))), none, some (.one true (.lst 3 [[.sl 0 0 0 n1 p1, .sl 1 0 0 n2 p2, .sl 2 0 0 n3 p3]])), arrI (aW d e s1 k)]⟩) (fun k => k ≤ n2) (fun k => n2 - k) 0 [(0, 0), (1, 0), (2, 0), (3, 0), (4, 0), (5, 0)] (Nat.zero_le _) ?_ ?_
  · simp (config := {contextual := true}) [idTo, noW, fstNodup, cV, cE, cL, cLs, cVs, cView, cEnt, cRow, cEls, look, Row.z, Row.n, Row.at, Ent.w, Ent.m, Ent.row, lessP, rg, List.replicate_succ, aW]
  intro k hk
  have hjl := aW_len d e s1 k
  simp only [rg, List.replicate_succ, List.replicate_zero, List.set_cons_zero, List.set_cons_succ]
  by_cases q : k < n2
  · have hw : IntKind.i64.wrap ((k : Int) + 1) = ((k + 1 : Nat) : Int) := by rw [IntKind.wrap_i64]; omega
    have hs : aW d e s1 (k + 1) = if 0 ≤ e k then (aW d e s1 k ++ [d k]) ++ [e k] else aW d e s1 k ++ [d k] := rfl
    generalize aW d e s1 k = o at hjl hs ⊢
    refine run_ok tok 400 _ _ ?_; simp only [↓reduceIte, run_blk, run_back, run_opsNil, run_op, run_skip, run_seq, run_block, run_cond, run_exit, run_region, dop, ev, ofV, ofLeaf, put, told, exitT, dBin, dFieldAddr, dIndexAddr, dAlloc, dLoad, dStore, dBuildSlice, dElems, newRow1, splice, cellsOf, DV.leaf, Row.z, Row.n, Row.at, Row.upd, Ent.w, Ent.m, Ent.row, Ent.upd, look, pureP, pureO, newP, tab, TK.agg, List.getD_cons_zero, List.getD_cons_succ, List.set_cons_zero, List.set_cons_succ, Option.map_some, Option.join_some, List.getElem?_cons_zero, List.getElem?_cons_succ, Bool.false_eq_true, true_and, and_true, List.length_cons, List.length_nil, Nat.reduceAdd, List.cons_append, List.nil_append, List.append_nil, List.drop_zero, List.drop_succ_cons, List.drop_nil, List.take_zero, List.take_succ_cons, List.take_nil, List.headD_cons, List.map_cons, List.map_nil, List.all_cons, List.all_nil, Bool.and_self, Nat.reduceLeDiff, Nat.zero_lt_succ, Nat.lt_add_one, or_true, true_or, Nat.add_zero, Nat.zero_add, List.replicate_succ, List.replicate_zero, Int.toNat_natCast, reduceCtorEq, Nat.reduceEqDiff, dAppend, part, srcP, ownB, killX, Nat.reduceMul]
    refine ⟨fun q2 => ?_, fun q2 => ?_⟩ <;> try simp only [decide_eq_true_eq, decide_eq_false_iff_not] at q2
    · refine ⟨⟨by omega, by omega⟩, q, ?_⟩
      refine ⟨⟨by omega, fun q hq => by (obtain rfl : q = 0 := by omega); rfl, by omega, by omega⟩, ?_⟩
      refine ⟨fun q3 => ?_, fun q3 => ?_⟩ <;> try simp only [decide_eq_true_eq, decide_eq_false_iff_not] at q3
      · rw [if_pos q3] at hs
        refine ⟨⟨by omega, fun q hq => by (obtain rfl : q = 0 := by omega); rfl, by omega, by omega⟩, ?_⟩
        refine ⟨k + 1, [(0, 0), (1, 0), (2, 0), (3, 0), (4, 0), (10, 0)], by omega, by omega, ?_⟩
        rw [hs]
        simp (config := {contextual := true}) [le_capJ, idTo, noW, fstNodup, cV, cE, cL, cLs, cVs, cView, cEnt, cRow, cEls, look, Row.z, Row.n, Row.at, Ent.w, Ent.m, Ent.row, lessP, hw]
        intro j hj
        by_cases h8 : j < o.length
        · have h9 : j < o.length + 1 := by omega
          simp [joined, h8, h9, cLs, cL, List.getElem?_append]
        · have h10 : j = o.length ∨ j = o.length + 1 := by omega
          rcases h10 with rfl | rfl
          · simp [joined, cLs, cL]
          · have h11 : ¬ o.length + 1 < o.length := by omega
            have h12 : ¬ o.length + 1 < o.length + 1 := by omega
            simp [joined, cLs, cL]
      · rw [if_neg q3] at hs
        refine ⟨k + 1, [(0, 0), (1, 0), (2, 0), (3, 0), (4, 0), (8, 0)], by omega, by omega, ?_⟩
        rw [hs]
        simp (config := {contextual := true}) [le_capJ, idTo, noW, fstNodup, cV, cE, cL, cLs, cVs, cView, cEnt, cRow, cEls, look, Row.z, Row.n, Row.at, Ent.w, Ent.m, Ent.row, lessP, hw]
        intro j hj
        by_cases h8 : j < o.length
        · simp [joined, h8, cLs, cL, List.getElem?_append]
        · obtain rfl : j = o.length := by omega
          simp [joined, cLs, cL]
    · omega
  obtain rfl : n2 = k := by omega
  generalize aW d e s1 n2 = s2 at hjl ⊢
  have hls : (sortN s2).length = s2.length := (sortN_perm s2).length_eq
  refine run_ok tok 400 _ _ ?_; simp only [↓reduceIte, run_blk, run_back, run_opsNil, run_op, run_skip, run_seq, run_block, run_cond, run_exit, run_region, dop, ev, ofV, ofLeaf, put, told, exitT, dBin, dFieldAddr, dIndexAddr, dAlloc, dLoad, dStore, dBuildSlice, dElems, newRow1, splice, cellsOf, DV.leaf, Row.z, Row.n, Row.at, Row.upd, Ent.w, Ent.m, Ent.row, Ent.upd, look, pureP, pureO, newP, tab, TK.agg, List.getD_cons_zero, List.getD_cons_succ, List.set_cons_zero, List.set_cons_succ, Option.map_some, Option.join_some, List.getElem?_cons_zero, List.getElem?_cons_succ, Bool.false_eq_true, true_and, and_true, List.length_cons, List.length_nil, Nat.reduceAdd, List.cons_append, List.nil_append, List.append_nil, List.drop_zero, List.drop_succ_cons, List.drop_nil, List.take_zero, List.take_succ_cons, List.take_nil, List.headD_cons, List.map_cons, List.map_nil, List.all_cons, List.all_nil, Bool.and_self, Nat.lt_irrefl, Nat.reduceLeDiff, Nat.zero_lt_succ, Nat.lt_add_one, or_true, true_or, Nat.add_zero, Nat.zero_add, List.replicate_succ, List.replicate_zero, Int.toNat_natCast, reduceCtorEq, Nat.reduceEqDiff, dAppend, part, srcP, ownB, killX, Nat.reduceMul]
  refine ⟨fun q2 => ?_, fun q2 => ?_⟩ <;> try simp only [decide_eq_true_eq, decide_eq_false_iff_not] at q2
  · omega
  refine D.call Try.func68 [(5, 0)] (t68 s2 s2.length (by omega) (by omega)) ?_; simp only [↓reduceIte, callP, callOk, wOk, jsOf, noW, fstNodup, allW, sig, renV, renL, afterH, backH, Row.ren, Ent.ren, capV, cV, cE, cL, cLs, cVs, cView, cEnt, cRow, ev, look, Row.z, Row.n, Row.at, Ent.w, Ent.m, Ent.row, put, List.lookup_cons, List.lookup_nil, Bool.or_true, Bool.and_true, Bool.not_true, Bool.not_false, beq_self_eq_true, List.any_nil, List.all_cons, List.all_nil, List.getD_cons_zero, List.getD_cons_succ, List.set_cons_zero, List.set_cons_succ, List.getElem?_cons_zero, List.getElem?_cons_succ, List.length_cons, List.length_nil, List.drop_succ_cons, List.drop_nil, List.map_cons, List.map_nil, List.append_nil, Option.map_some, Option.join_some, Nat.reduceAdd, Nat.reduceBEq, Nat.lt_add_one, Nat.add_zero, Nat.zero_add, Nat.le_refl, decide_true, true_and, and_true, and_self, implies_true, imp_self]; refine run_ok tok 400 _ _ ?_; simp only [run_opsNil, run_op, run_seq, run_region, dop, ev, put, List.getD_cons_zero, List.getD_cons_succ, List.set_cons_zero, List.set_cons_succ, true_and]
  have hcl := cmpL_len (sortN s2)
  refine D.call Try.func69 [(5, 0)] (t69 (sortN s2) (by omega) 0) ?_
  simp only [↓reduceIte, callP, callOk, wOk, jsOf, noW, fstNodup, allW, sig, sigma, rl, renV, renE, renL, afterH, backH, Row.ren, Ent.ren, capV, cV, cE, cL, cLs, cVs, cView, cEnt, cRow, ev, look, Row.z, Row.n, Row.at, Ent.w, Ent.m, Ent.row, put, List.lookup_cons, List.lookup_nil, Bool.or_true, Bool.and_true, Bool.not_true, Bool.not_false, beq_self_eq_true, List.any_nil, List.all_cons, List.all_nil, List.getD_cons_zero, List.getD_cons_succ, List.set_cons_zero, List.set_cons_succ, List.getElem?_cons_zero, List.getElem?_cons_succ, List.length_cons, List.length_nil, List.drop_succ_cons, List.drop_nil, List.map_cons, List.map_nil, List.append_nil, Option.map_some, Option.join_some, Nat.reduceAdd, Nat.reduceBEq, Nat.lt_add_one, Nat.add_zero, Nat.zero_add, Nat.zero_le, decide_true, true_and, and_true, and_self, implies_true, imp_self]
  refine ⟨hls.symm, ?_⟩
  refine run_ok tok 400 _ _ ?_; simp only [run_op, dop]
  generalize cmpL (sortN s2) = o at hcl ⊢
  refine D.call Try.func67 [(5, 0)] (t67 o.length 0 (by omega) (fun i => o.getD i 0)) ?_; simp only [↓reduceIte, callP, callOk, wOk, jsOf, noW, fstNodup, allW, sig, sigma, renV, renE, renL, afterH, backH, Row.ren, Ent.ren, capV, cV, cE, cL, cLs, cVs, cView, cEnt, cRow, ev, look, Row.z, Row.n, Row.at, Ent.w, Ent.m, Ent.row, put, List.lookup_nil, Bool.or_true, Bool.or_false, Bool.and_true, Bool.and_false, Bool.not_false, beq_self_eq_true, List.any_nil, List.all_cons, List.all_nil, List.getD_cons_zero, List.getD_cons_succ, List.set_cons_zero, List.set_cons_succ, List.getElem?_cons_zero, List.getElem?_cons_succ, List.length_cons, List.length_nil, List.drop_zero, List.drop_succ_cons, List.map_cons, List.map_nil, List.cons_append, List.nil_append, List.append_nil, Option.map_some, Option.join_some, Nat.reduceAdd, Nat.reduceSub, Nat.lt_add_one, Nat.add_zero, Nat.zero_add, Nat.le_refl, decide_true, true_and, and_true, and_self, implies_true, imp_self, Bool.false_eq_true, Nat.lt_irrefl]; refine run_ok tok 400 _ _ ?_; simp only [run_opsNil, run_op, run_ret, dop, ev, put, List.getD_cons_zero, List.getD_cons_succ, List.set_cons_zero, List.set_cons_succ, true_and]
  refine Out.of [(0, 0), (1, 0), (2, 0), (6, 0)] ?_; simp (config := {contextual := true}) [outP, outOf, resL, idTo, noW, fstNodup, cV, cE, cL, cLs, cView, cEnt, cRow, look, Row.z, Row.n, Row.at, Ent.w, Ent.m, Ent.row]
end Go.Proofs.YtaklcaejeaiagaaE
