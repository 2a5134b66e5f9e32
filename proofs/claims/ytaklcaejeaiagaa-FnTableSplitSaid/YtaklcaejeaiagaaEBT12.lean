/- A part of the proof of a law of the given program: contracts of functions. No condition of its own. -/
import Derived.Test.YtaklcaejeaiagaaEBT11
namespace Go.Proofs.YtaklcaejeaiagaaE
open Go.Proofs
set_option maxRecDepth 100000
def hit (key : Int) (a b : Nat → Int) (i : Nat) : Prop := a i ≤ key ∧ key ≤ IntKind.i64.wrap (b i - 1)
def IsIdx (key : Int) (n : Nat) (a b : Nat → Int) (r : Int) : Prop := (r = -1 ∧ ∀ i, i < n → ¬ hit key a b i) ∨ ∃ i : Nat, i < n ∧ r = i ∧ hit key a b i ∧ ∀ j, j < i → ¬ hit key a b j
theorem IsIdx.at {key : Int} {n : Nat} {a b : Nat → Int} {r : Int} (h : IsIdx key n a b r) {k : Nat} (hk : k < n) (hh : hit key a b k) (hj : ∀ j, j < k → ¬ hit key a b j) : r = k := by
  rcases h with ⟨_, h⟩ | ⟨i, h1, h2, h3, h4⟩
  · exact absurd hh (h k hk)
  · rcases Nat.lt_trichotomy i k with h | h | h
    · exact absurd h3 (hj i h)
    · rw [h2, h]
    · exact absurd hh (h4 k h)
theorem IsIdx.none {key : Int} {n : Nat} {a b : Nat → Int} {r : Int} (h : IsIdx key n a b r) (hj : ∀ j, j < n → ¬ hit key a b j) : r = -1 := by
  rcases h with ⟨h, _⟩ | ⟨i, h1, h2, h3, h4⟩
  · exact h
  · exact absurd h3 (hj i h1)
theorem idx_ex (key : Int) (n : Nat) (a b : Nat → Int) : ∃ r, IsIdx key n a b r := by
  by_cases h : ∃ i, i < n ∧ hit key a b i
  · obtain ⟨i, hi⟩ := h
    induction i using Nat.strongRecOn with
    | _ i ih =>
      by_cases h2 : ∃ j, j < i ∧ hit key a b j
      · obtain ⟨j, hj1, hj2⟩ := h2
        exact ih j hj1 ⟨by omega, hj2⟩
      · exact ⟨i, .inr ⟨i, hi.1, rfl, hi.2, fun j hj hh => h2 ⟨j, hj, hh⟩⟩⟩
  · exact ⟨-1, .inl ⟨rfl, fun i hi hh => h ⟨i, hi, hh⟩⟩⟩
theorem t41 (n p : Nat) (hn : n ≤ 1048576) (e m key : Int) (a b c : Nat → Int) (r : Int) (hr : IsIdx key n a b r) : Tri Try.prog 41 [.agg [.i64 e, .i64 m, .sl 0 0 0 n p], .i64 key] [some (.one false (.arr 3 n (row3 a b c)))]
   (.i64 r) [some (.one false (.arr 3 n (row3 a b c)))] := by
  refine Tri.of tok Try.func41 rfl ?_; simp only [Try.ntmps41, Try.results41, List.length_cons, List.length_nil, Nat.reduceAdd, Nat.reduceSub, List.replicate_succ, List.replicate_zero, List.cons_append, List.nil_append]; refine run_ok tok 400 _ _ ?_; simp only [↓reduceIte, run_opsNil, run_op, run_seq, run_block, run_region, run_loop, dop, ev, ofV, ofLeaf, put, dBox, newRow1, cellsOf, DV.leaf, newP, List.getD_cons_zero, List.set_cons_zero, List.set_cons_succ, Option.map_some, true_and, List.length_cons, List.length_nil, Nat.reduceAdd, List.cons_append, List.nil_append, List.all_cons, List.all_nil, Bool.and_self, Nat.zero_add]
  refine D.loopI (fun k : Nat => ⟨rg 29 [(1, .i64 key), (2, .ptr 1 0 0 0), (5, .i64 k)], [some (.one false (.arr 3 n (row3 a b c))), some (.one true (.lst 3 [[.i64 e, .i64 m, .sl 0 0 0 n p]]))]⟩) (fun k => k ≤ n ∧ ∀ j, j < k → ¬ hit key a b j) (fun k => n - k) 0 [(0, 0), (1, 0)] ⟨Nat.zero_le _, fun j hj => by omega⟩ ?_ ?_
  · simp (config := {contextual := true}) [idTo, noW, fstNodup, cV, cE, cL, cLs, cVs, cView, cEnt, cRow, cEls, look, Row.z, Row.n, Row.at, Ent.w, Ent.m, Ent.row, lessP, rg, List.replicate_succ]
  · intro k ⟨hk, hg⟩
    simp only [rg, List.replicate_succ, List.replicate_zero, List.set_cons_zero, List.set_cons_succ]
    refine run_ok tok 400 _ _ ?_; simp only [↓reduceIte, run_opsNil, run_op, run_skip, run_seq, run_block, run_cond, run_exit, run_ret, run_region, run_drawn, dop, ev, ofV, ofLeaf, put, told, exitT, dBin, dFieldAddr, dLen, dBuiltin, dLoad, Row.z, Row.n, Row.at, Ent.m, Ent.row, look, pureP, pureO, tab, TK.agg, List.getD_cons_zero, List.getD_cons_succ, List.set_cons_zero, List.set_cons_succ, Option.map_some, Option.join_some, List.getElem?_cons_zero, List.getElem?_cons_succ, Bool.false_eq_true, true_and, and_true, List.length_cons, List.length_nil, Nat.reduceAdd, List.drop_zero, List.drop_succ_cons, List.take_succ_cons, List.take_nil, List.headD_cons, List.map_cons, List.map_nil, Nat.reduceLeDiff, Nat.lt_add_one, or_true, Nat.zero_add, reduceCtorEq]
    refine ⟨fun h => ?_, fun h => ?_⟩ <;> try simp only [decide_eq_true_eq, decide_eq_false_iff_not] at h
    · refine D.draw1 (by rfl) [[], [], [1], [], [1, 2, 3], [1, 2, 3, 4], [1, 2, 3, 4, 5], [], [7], [], [7, 8, 9], [7, 8, 9, 10], [7, 8, 9, 10, 11], [7, 8, 9, 10, 11, 12], [0, 1, 2, 3, 4, 5, 6, 7, 8, 9, 10, 11, 12, 13]] (by simp only [List.length_cons, List.length_nil, Nat.reduceAdd, Nat.reduceLeDiff]) ?_; refine runD_ok (A := [[], [], [1], [], [1, 2, 3], [1, 2, 3, 4], [1, 2, 3, 4, 5], [], [7], [], [7, 8, 9], [7, 8, 9, 10], [7, 8, 9, 10, 11], [7, 8, 9, 10, 11, 12], [0, 1, 2, 3, 4, 5, 6, 7, 8, 9, 10, 11, 12, 13]]) (ws := []) (n0 := 2) tok 0 _ _ _ _ rfl ?_; simp only [runD_op, obl, newX, wokB, seenOpts, seenV, seenE, seenL, xOf, wX, Wof, upto, maskH, merge, mergeH, Ent.flag, allW, List.contains_nil, List.contains_cons, List.lookup_nil, Bool.or_false, Bool.or_true, Bool.and_true, Nat.reduceBEq, Nat.sub_self, Nat.le_refl, beq_self_eq_true, and_self, and_true, true_and, ↓reduceIte, dop, ev, ofV, ofLeaf, put, dBin, dFieldAddr, dIndexAddr, dLoad, Row.z, Row.n, Row.at, Ent.w, Ent.m, Ent.row, look, pureP, pureO, tab, TK.agg, List.getD_cons_zero, List.getD_cons_succ, List.set_cons_zero, List.set_cons_succ, Option.map_some, Option.join_some, List.getElem?_cons_zero, List.getElem?_cons_succ, Bool.false_eq_true, true_and, and_true, List.length_cons, List.length_nil, Nat.reduceAdd, List.cons_append, List.nil_append, List.append_nil, List.drop_zero, List.drop_succ_cons, List.drop_nil, List.take_zero, List.take_succ_cons, List.take_nil, List.headD_cons, List.map_nil, List.all_nil, Bool.and_true, Bool.and_self, Nat.reduceLeDiff, Nat.zero_lt_succ, Nat.lt_add_one, or_true, Nat.add_zero, Nat.zero_add, decide_true, Int.toNat_natCast, reduceCtorEq]
      refine ⟨⟨by omega, by omega⟩, by omega, ⟨by omega, by omega⟩, by omega, ?_⟩
      refine Dr.call [[], [], [1], [], [1, 2, 3], [1, 2, 3, 4], [1, 2, 3, 4, 5], [], [7], [], [7, 8, 9], [7, 8, 9, 10], [7, 8, 9, 10, 11], [7, 8, 9, 10, 11, 12], [0, 1, 2, 3, 4, 5, 6, 7, 8, 9, 10, 11, 12, 13]] [] 2 Try.func89 [] (t89 key (a k) (IntKind.i64.wrap (b k - 1))) ?_; simp only [↓reduceIte, callP, callOk, wOk, jsOf, noW, fstNodup, allW, sig, renV, renE, renL, afterH, backH, capV, cV, cE, cL, cVs, cView, ev, Ent.w, put, List.lookup_nil, Bool.or_true, Bool.or_false, Bool.and_true, beq_self_eq_true, List.all_nil, List.getD_cons_zero, List.getD_cons_succ, List.set_cons_zero, List.set_cons_succ, List.length_cons, List.length_nil, List.drop_succ_cons, List.drop_nil, List.map_cons, List.map_nil, List.cons_append, List.nil_append, List.append_nil, Option.map_some, Nat.reduceAdd, Nat.reduceBEq, Nat.zero_add, Nat.le_refl, decide_true, true_and, and_self, Bool.false_eq_true, Int.reduceNeg, obl, newX, wokB, seenOpts, seenV, seenE, seenL, xOf, wX, Wof, maskH, merge, mergeH, Ent.flag, allW, List.contains_nil, List.contains_cons, List.lookup_nil, Bool.or_false, Bool.or_true, Bool.and_true, Nat.reduceBEq, Nat.le_refl, beq_self_eq_true, and_self, true_and, ↓reduceIte, ev, put, Ent.w, List.getD_cons_zero, List.getD_cons_succ, List.set_cons_zero, List.set_cons_succ, Option.map_some, Bool.false_eq_true, true_and, List.length_cons, List.length_nil, Nat.reduceAdd, List.cons_append, List.nil_append, List.append_nil, List.drop_succ_cons, List.drop_nil, List.map_cons, List.map_nil, List.all_nil, Bool.and_true, Bool.and_self, Nat.zero_add, decide_true]
      refine runD_ok (A := [[], [], [1], [], [1, 2, 3], [1, 2, 3, 4], [1, 2, 3, 4, 5], [], [7], [], [7, 8, 9], [7, 8, 9, 10], [7, 8, 9, 10, 11], [7, 8, 9, 10, 11, 12], [0, 1, 2, 3, 4, 5, 6, 7, 8, 9, 10, 11, 12, 13]]) (ws := []) (n0 := 2) tok _ _ _ _ _ rfl ?_; simp only [runD_nil]
      refine ⟨by rfl, ?_⟩
      refine run_ok tok 400 _ _ ?_; simp only [↓reduceIte, run_blk, run_back, run_opsNil, run_op, run_skip, run_seq, run_cond, run_ret, run_region, dop, ev, ofV, ofLeaf, put, told, dBin, pureP, List.getD_cons_zero, List.getD_cons_succ, List.set_cons_zero, List.set_cons_succ, Option.map_some, true_and]
      refine ⟨fun h4 => ?_, fun h4 => ?_⟩ <;> try simp only [decide_eq_true_eq, decide_eq_false_iff_not] at h4
      · refine Out.of [(0, 0), (1, 0)] ?_
        simp (config := {contextual := true}) [outP, outOf, resL, idTo, noW, fstNodup, cV, cE, cL, cLs, cView, cEnt, cRow, look, Row.z, Row.n, Row.at, Ent.w, Ent.m, Ent.row, hr.at (by omega) h4 hg]
      · have hw : IntKind.i64.wrap ((k : Int) + 1) = ((k + 1 : Nat) : Int) := by rw [IntKind.wrap_i64]; omega
        refine ⟨k + 1, [(0, 0), (1, 0)], ⟨by omega, fun j hj => ?_⟩, by omega, ?_⟩
        · by_cases hjk : j = k
          · subst hjk; exact h4
          · exact hg j (by omega)
        · simp (config := {contextual := true}) [idTo, noW, fstNodup, cV, cE, cL, cLs, cVs, cView, cEnt, cRow, cEls, look, Row.z, Row.n, Row.at, Ent.w, Ent.m, Ent.row, lessP, hw]
    · refine Out.of [(0, 0), (1, 0)] ?_
      obtain rfl : k = n := by omega
      simp (config := {contextual := true}) [outP, outOf, resL, idTo, noW, fstNodup, cV, cE, cL, cLs, cView, cEnt, cRow, look, Row.z, Row.n, Row.at, Ent.w, Ent.m, Ent.row, hr.none hg]
theorem t94 (key a b c : Int) : Tri Try.prog 94 [.agg [.i64 a, .i64 b, .i64 c], .ptr 0 0 0 0] [some (.one false (.lst 1 [[.i64 key]]))] (.bool (decide (a ≤ key ∧ key ≤ IntKind.i64.wrap (b - 1)))) [some (.one false (.lst 1 [[.i64 key]]))] := by
  refine Tri.of tok Try.func94 rfl ?_; simp only [Try.ntmps94, Try.results94, List.length_cons, List.length_nil, Nat.reduceAdd, Nat.reduceSub, List.replicate_succ, List.replicate_zero, List.cons_append, List.nil_append]; refine run_ok tok 400 _ _ ?_; simp only [↓reduceIte, run_opsNil, run_op, run_seq, run_region, dop, ev, ofV, ofLeaf, put, dBin, dFieldAddr, dBox, dLoad, newRow1, cellsOf, DV.leaf, Row.z, Row.n, Row.at, Ent.m, Ent.row, look, pureP, pureO, newP, tab, TK.agg, List.getD_cons_zero, List.getD_cons_succ, List.set_cons_zero, List.set_cons_succ, Option.map_some, Option.join_some, List.getElem?_cons_zero, List.getElem?_cons_succ, Bool.false_eq_true, true_and, and_true, List.length_cons, List.length_nil, Nat.reduceAdd, List.cons_append, List.nil_append, List.drop_zero, List.drop_succ_cons, List.take_zero, List.take_succ_cons, List.take_nil, List.headD_cons, List.all_cons, List.all_nil, Bool.and_self, Nat.reduceLeDiff, Nat.lt_add_one, or_true, Nat.add_zero, Nat.zero_add, reduceCtorEq]
  refine D.call Try.func95 [] (t95 key a (IntKind.i64.wrap (b - 1))) ?_
  simp only [callP, callOk, wOk, jsOf, noW, fstNodup, allW, sig, renV, renE, renL, afterH, backH, capV, cV, cE, cL, cVs, cView, ev, Ent.w, put, List.lookup_nil, Bool.or_true, Bool.and_true, List.all_nil, List.getD_cons_zero, List.getD_cons_succ, List.set_cons_zero, List.set_cons_succ, List.length_cons, List.length_nil, List.drop_nil, List.map_cons, List.map_nil, List.append_nil, Nat.reduceAdd, Nat.zero_add, decide_true, true_and, and_self]
  refine run_ok tok 400 _ _ ?_; simp only [run_opsNil, run_op, run_ret, dop, ev, put, List.getD_cons_zero, List.getD_cons_succ, List.set_cons_zero, List.set_cons_succ, true_and]
  refine Out.of [(0, 0)] ?_
  simp (config := {contextual := true}) [outP, outOf, resL, idTo, noW, fstNodup, cV, cE, cL, cLs, cView, cEnt, cRow, cEls, look, Row.z, Row.n, Row.at, Ent.w, Ent.m, Ent.row]
theorem t93 (n p : Nat) (hn : n ≤ 1048576) (key : Int) (a b c : Nat → Int) (r : Int) (hr : IsIdx key n a b r) : Tri Try.prog 93 [.sl 0 0 0 n p, .fn 94 [1]] [some (.one false (.arr 3 n (row3 a b c))), some (.one false (.lst 1 [[.i64 key]]))]
   (.i64 r) [some (.one false (.arr 3 n (row3 a b c))), some (.one false (.lst 1 [[.i64 key]]))] := by
  refine Tri.of tok Try.func93 rfl ?_; simp only [Try.ntmps93, Try.results93, List.length_cons, List.length_nil, Nat.reduceAdd, Nat.reduceSub, List.replicate_succ, List.replicate_zero, List.cons_append, List.nil_append]; refine run_ok tok 400 _ _ ?_; simp only [run_opsNil, run_op, run_seq, run_block, run_region, run_loop, dop, ev, ofV, ofLeaf, put, dLen, dBuiltin, pureO, tab, List.getD_cons_zero, List.getD_cons_succ, List.set_cons_zero, List.set_cons_succ, Option.map_some, true_and, List.map_cons, List.map_nil]
  refine D.loopI (fun k : Nat => ⟨rg 19 [(0, .sl 0 0 0 n p), (1, .fn 94 [1]), (7, .i64 n), (8, .i64 k)], [some (.one false (.arr 3 n (row3 a b c))), some (.one false (.lst 1 [[.i64 key]]))]⟩) (fun k => k ≤ n ∧ ∀ j, j < k → ¬ hit key a b j) (fun k => n - k) 0 [(0, 0), (1, 0)] ⟨Nat.zero_le _, fun j hj => by omega⟩ ?_ ?_
  · simp (config := {contextual := true}) [idTo, noW, fstNodup, cV, cE, cL, cLs, cVs, cView, cEnt, cRow, cEls, look, Row.z, Row.n, Row.at, Ent.w, Ent.m, Ent.row, lessP, rg, List.replicate_succ]
  · intro k ⟨hk, hg⟩
    simp only [rg, List.replicate_succ, List.replicate_zero, List.set_cons_zero, List.set_cons_succ]
    refine run_ok tok 400 _ _ ?_; simp only [↓reduceIte, run_opsNil, run_op, run_skip, run_seq, run_block, run_cond, run_exit, run_ret, run_region, dop, ev, ofV, ofLeaf, put, told, exitT, dBin, dIndexAddr, dLoad, Row.z, Row.n, Row.at, Ent.m, Ent.row, look, pureP, tab, TK.agg, List.getD_cons_zero, List.getD_cons_succ, List.set_cons_zero, List.set_cons_succ, Option.map_some, Option.join_some, List.getElem?_cons_zero, true_and, and_true, List.drop_zero, List.take_succ_cons, List.take_nil, Nat.reduceLeDiff, Nat.lt_add_one, true_or, Nat.zero_add, Int.toNat_natCast, Nat.reduceEqDiff]
    refine ⟨fun h => ?_, fun h => ?_⟩ <;> try simp only [decide_eq_true_eq, decide_eq_false_iff_not] at h
    · refine ⟨⟨by omega, by omega⟩, by omega, ?_⟩
      refine D.call Try.func94 [(1, 0)] (t94 key (a k) (b k) (c k)) ?_
      simp only [↓reduceIte, callP, callOk, wOk, jsOf, noW, fstNodup, allW, sig, renV, renE, renL, afterH, backH, capV, cV, cE, cL, cLs, cVs, cView, cEnt, cRow, cEls, ev, look, Row.z, Row.n, Row.at, Ent.w, Ent.m, Ent.row, put, List.lookup_nil, Bool.or_true, Bool.or_false, Bool.and_true, Bool.and_false, Bool.not_false, beq_self_eq_true, List.any_nil, List.all_cons, List.all_nil, List.getD_cons_zero, List.getD_cons_succ, List.set_cons_zero, List.set_cons_succ, List.getElem?_cons_zero, List.getElem?_cons_succ, List.length_cons, List.length_nil, List.drop_succ_cons, List.drop_nil, List.map_cons, List.map_nil, List.cons_append, List.nil_append, List.append_nil, Option.join_some, Nat.reduceAdd, Nat.lt_add_one, Nat.add_zero, Nat.zero_add, decide_true, true_and, and_true, and_self, imp_self, Bool.false_eq_true, Int.reduceNeg]
      refine run_ok tok 400 _ _ ?_; simp only [↓reduceIte, run_blk, run_back, run_opsNil, run_op, run_skip, run_seq, run_cond, run_ret, run_region, dop, ev, ofV, ofLeaf, put, told, dBin, pureP, List.getD_cons_zero, List.getD_cons_succ, List.set_cons_zero, List.set_cons_succ, Option.map_some, true_and]
      refine ⟨fun h4 => ?_, fun h4 => ?_⟩ <;> try simp only [decide_eq_true_eq, decide_eq_false_iff_not] at h4
      · refine Out.of [(0, 0), (1, 0)] ?_
        simp (config := {contextual := true}) [outP, outOf, resL, idTo, noW, fstNodup, cV, cE, cL, cLs, cView, cEnt, cRow, cEls, look, Row.z, Row.n, Row.at, Ent.w, Ent.m, Ent.row, hr.at (by omega) h4 hg]
      · have hw : IntKind.i64.wrap ((k : Int) + 1) = ((k + 1 : Nat) : Int) := by rw [IntKind.wrap_i64]; omega
        refine ⟨k + 1, [(0, 0), (1, 0)], ⟨by omega, fun j hj => ?_⟩, by omega, ?_⟩
        · by_cases hjk : j = k
          · subst hjk; exact h4
          · exact hg j (by omega)
        · simp (config := {contextual := true}) [idTo, noW, fstNodup, cV, cE, cL, cLs, cVs, cView, cEnt, cRow, cEls, look, Row.z, Row.n, Row.at, Ent.w, Ent.m, Ent.row, lessP, hw]
    · refine Out.of [(0, 0), (1, 0)] ?_
      obtain rfl : k = n := by omega
      simp (config := {contextual := true}) [outP, outOf, resL, idTo, noW, fstNodup, cV, cE, cL, cLs, cView, cEnt, cRow, cEls, look, Row.z, Row.n, Row.at, Ent.w, Ent.m, Ent.row, hr.none hg]
theorem t47 (n p : Nat) (hn : n ≤ 1048576) (e m key : Int) (a b c : Nat → Int) (r : Int) (hr : IsIdx key n a b r) : Tri Try.prog 47 [.agg [.i64 e, .i64 m, .sl 0 0 0 n p], .i64 key] [some (.one false (.arr 3 n (row3 a b c)))]
   (.i64 r) [some (.one false (.arr 3 n (row3 a b c)))] := by
  refine Tri.of tok Try.func47 rfl ?_; simp only [Try.ntmps47, Try.results47, List.length_cons, List.length_nil, Nat.reduceAdd, Nat.reduceSub, List.replicate_succ, List.replicate_zero, List.cons_append, List.nil_append]; refine run_ok tok 400 _ _ ?_; simp only [↓reduceIte, run_opsNil, run_op, run_seq, run_region, dop, ev, ofV, ofLeaf, put, dFieldAddr, dBox, dLoad, dCaps, newRow1, cellsOf, DV.leaf, Row.z, Row.n, Row.at, Ent.m, Ent.row, look, pureP, pureO, newP, tab, TK.agg, List.getD_cons_zero, List.getD_cons_succ, List.set_cons_zero, List.set_cons_succ, Option.map_some, Option.join_some, List.getElem?_cons_zero, List.getElem?_cons_succ, Bool.false_eq_true, true_and, and_true, List.length_cons, List.length_nil, Nat.reduceAdd, List.cons_append, List.nil_append, List.drop_zero, List.drop_succ_cons, List.take_succ_cons, List.take_nil, List.headD_cons, List.map_cons, List.map_nil, List.all_cons, List.all_nil, Bool.and_self, Nat.reduceLeDiff, Nat.lt_add_one, or_true, Nat.zero_add, reduceCtorEq, List.size_toArray]
  refine D.call Try.func93 [(0, 0), (2, 0)] (t93 n p hn key a b c r hr) ?_
  simp only [↓reduceIte, callP, callOk, wOk, jsOf, noW, fstNodup, allW, sig, renV, renE, renL, afterH, backH, capV, cV, cE, cL, cLs, cVs, cView, cEnt, cRow, cEls, ev, look, Row.z, Row.n, Row.at, Ent.w, Ent.m, Ent.row, put, List.lookup_nil, Bool.or_true, Bool.or_false, Bool.and_true, Bool.and_false, Bool.not_false, beq_self_eq_true, List.any_cons, List.any_nil, List.all_cons, List.all_nil, List.getD_cons_zero, List.getD_cons_succ, List.set_cons_zero, List.set_cons_succ, List.getElem?_cons_zero, List.getElem?_cons_succ, List.length_cons, List.length_nil, List.drop_succ_cons, List.drop_nil, List.map_cons, List.map_nil, List.append_nil, Option.join_some, Nat.reduceAdd, Nat.reduceBEq, Nat.lt_add_one, Nat.zero_lt_succ, Nat.add_zero, Nat.zero_add, Nat.le_refl, decide_true, true_and, and_true, and_self, implies_true, imp_self, Bool.false_eq_true]
  refine run_ok tok 400 _ _ ?_; simp only [run_opsNil, run_op, run_ret, dop, ev, put, List.getD_cons_zero, List.getD_cons_succ, List.set_cons_zero, List.set_cons_succ, true_and]
  refine Out.of [(0, 0)] ?_
  simp (config := {contextual := true}) [outP, outOf, resL, idTo, noW, fstNodup, cV, cE, cL, cLs, cView, cEnt, cRow, look, Row.z, Row.n, Row.at, Ent.w, Ent.m, Ent.row]
end Go.Proofs.YtaklcaejeaiagaaE
