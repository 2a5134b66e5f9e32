/- A part of the proof of a law of the given program: contracts of functions. No condition of its own. -/
import Derived.Test.YtnlohhgcimcmnaaER5
namespace Go.Proofs.YtnlohhgcimcmnaaE
open Go.Proofs
set_option maxRecDepth 100000
abbrev row1 (a : Nat → Int) : Nat → List DV := fun i => [.i64 (a i)]
abbrev row2 (a b : Nat → Int) : Nat → List DV := fun i => [.i64 (a i), .i64 (b i)]
def lft (l n : Int) : Int := if IntKind.i64.wrap (l - n) < 0 then -1 else IntKind.i64.wrap (l - n)
theorem lft_nn {l : Int} {n : Nat} (hl : 0 ≤ l ∧ l ≤ 1048576) (hn : n ≤ 9223372036854775807) (h : ¬ lft l n < 0) : n ≤ 1048576 ∧ (0 ≤ lft l n ∧ lft l n ≤ 1048576) := by
  unfold lft at *
  have hw : IntKind.i64.wrap (l - n) = l - n := by rw [IntKind.wrap_i64]; omega
  rw [hw] at h ⊢
  by_cases h0 : l - (n : Int) < 0
  · rw [if_pos h0] at h; omega
  · rw [if_neg h0]; omega
theorem t34 (n : Nat) (l : Int) : Tri Try.prog 34 [.sl 0 0 0 n 0, .i64 l] [none] (.i64 (lft l n)) [none] := by
  refine Tri.of tok Try.func34 rfl ?_; simp only [Try.ntmps34, Try.results34, List.length_cons, List.length_nil, Nat.reduceAdd, Nat.reduceSub, List.replicate_succ, List.replicate_zero, List.cons_append, List.nil_append]; refine run_ok tok 400 _ _ ?_; simp only [↓reduceIte, run_opsNil, run_op, run_skip, run_seq, run_cond, run_ret, run_region, dop, ev, ofV, ofLeaf, put, told, dBin, dLen, dBuiltin, pureP, pureO, tab, List.getD_cons_zero, List.getD_cons_succ, List.set_cons_zero, List.set_cons_succ, Option.map_some, true_and, List.map_cons, List.map_nil]
  refine ⟨fun h => ?_, fun h => ?_⟩ <;> try simp only [decide_eq_true_eq, decide_eq_false_iff_not] at h
  · refine Out.of [(0, 0)] ?_; simp (config := {contextual := true}) [outP, outOf, resL, idTo, noW, fstNodup, cV, cE, cL, cView, cEnt, Ent.w, lft, h]
  · refine Out.of [(0, 0)] ?_; simp (config := {contextual := true}) [outP, outOf, resL, idTo, noW, fstNodup, cV, cE, cL, cView, cEnt, Ent.w, lft, h]
theorem t40 (n : Nat) (hn : n ≤ 1048576) (a : Nat → Int) : Tri Try.prog 40 [.sl 0 0 0 n 0] [some (.one false (.arr 1 n (row1 a)))]
   (.sl 1 0 0 n n) [some (.one false (.arr 1 n (row1 a))), some (.one true (.arr 1 n (row1 a)))] := by
  refine Tri.of tok Try.func40 rfl ?_; simp only [Try.ntmps40, Try.results40, List.length_cons, List.length_nil, Nat.reduceAdd, Nat.reduceSub, List.replicate_succ, List.replicate_zero, List.cons_append, List.nil_append]; refine run_ok tok 400 _ _ ?_; simp only [run_opsNil, run_op, run_seq, run_block, run_region, run_loop, dop, ev, ofV, ofLeaf, put, dLen, dBuiltin, dMake, newRow1, pureO, tab, List.getD_cons_zero, List.getD_cons_succ, List.set_cons_zero, List.set_cons_succ, Option.map_some, true_and, List.length_cons, List.length_nil, List.cons_append, List.nil_append, List.map_cons, List.map_nil, Nat.zero_add, Int.toNat_natCast]
  refine ⟨by omega, ?_⟩
  refine D.loopI (fun k : Nat => ⟨rg 22 [(0, .sl 0 0 0 n 0), (3, .sl 1 0 0 n n), (4, .i64 k)], [some (.one false (.arr 1 n (row1 a))), some (.one true (.arr 1 n fun i => if i < k then [.i64 (a i)] else [.i64 0]))]⟩) (fun k => k ≤ n) (fun k => n - k) 0 [(0, 0), (1, 0)] (Nat.zero_le _) ?_ ?_
  · simp [idTo, noW, fstNodup, cV, cE, cL, cLs, cVs, cView, cEnt, cRow, look, Row.z, Row.n, Row.at, Ent.w, Ent.m, Ent.row, lessP, rg, List.replicate_succ]
  · intro k hk
    simp only [rg, List.replicate_succ, List.replicate_zero, List.set_cons_zero, List.set_cons_succ]
    refine run_ok tok 400 _ _ ?_; simp only [↓reduceIte, run_blk, run_back, run_opsNil, run_op, run_skip, run_seq, run_block, run_cond, run_exit, run_ret, run_region, dop, ev, ofV, ofLeaf, put, told, exitT, dBin, dIndexAddr, dLen, dBuiltin, dLoad, dStore, splice, cellsOf, DV.leaf, Row.z, Row.n, Row.at, Row.upd, Ent.w, Ent.m, Ent.row, Ent.upd, look, pureP, pureO, tab, TK.agg, List.getD_cons_zero, List.getD_cons_succ, List.set_cons_zero, List.set_cons_succ, Option.map_some, Option.join_some, List.getElem?_cons_zero, List.getElem?_cons_succ, Bool.false_eq_true, true_and, and_true, List.length_cons, List.length_nil, List.nil_append, List.append_nil, List.drop_zero, List.drop_succ_cons, List.drop_nil, List.take_zero, List.take_succ_cons, List.take_nil, List.headD_cons, List.map_cons, List.map_nil, List.all_cons, List.all_nil, Bool.and_self, Nat.lt_irrefl, Nat.reduceLeDiff, Nat.lt_add_one, or_true, Nat.zero_add, Int.toNat_natCast]
    refine ⟨fun h => ?_, fun h => ?_⟩ <;> try simp only [decide_eq_true_eq, decide_eq_false_iff_not] at h
    · refine ⟨⟨by omega, by omega⟩, by omega, ?_⟩
      refine ⟨⟨by omega, by omega⟩, by omega, k + 1, [(0, 0), (1, 0)], by omega, by omega, ?_⟩
      have hw : IntKind.i64.wrap ((k : Int) + 1) = ((k + 1 : Nat) : Int) := by rw [IntKind.wrap_i64]; omega
      simp [idTo, noW, fstNodup, cV, cE, cL, cLs, cVs, cView, cEnt, cRow, look, Row.z, Row.n, Row.at, Ent.w, Ent.m, Ent.row, lessP, hw]
      intro i hi
      refine ⟨hi, ?_⟩
      rcases Nat.lt_trichotomy i k with h | h | h
      · simp [h, Nat.ne_of_lt h, Nat.lt_succ_of_lt h, cLs, cL]
      · simp [h, cLs, cL]
      · rw [if_neg (by omega), if_neg (by omega), if_neg (by omega)]; simp [cLs, cL]
    · refine Out.of [(0, 0), (1, 0)] ?_
      obtain rfl : k = n := by omega
      simp (config := {contextual := true}) [outP, outOf, resL, idTo, noW, fstNodup, cV, cE, cL, cLs, cView, cEnt, cRow, look, Row.z, Row.n, Row.at, Ent.w, Ent.m, Ent.row]
theorem t47 (n p q : Nat) (hn : n ≤ 1048576) (a : Nat → Int) : Tri Try.prog 47 [.sl 0 0 0 n p, .sl 1 0 0 n q] [some (.one false (.arr 1 n (row1 a))), some (.one false (.arr 1 n (row1 a)))] (.bool true) [some (.one false (.arr 1 n (row1 a))), some (.one false (.arr 1 n (row1 a)))] := by
  refine Tri.of tok Try.func47 rfl ?_; simp only [Try.ntmps47, Try.results47, List.length_cons, List.length_nil, Nat.reduceAdd, Nat.reduceSub, List.replicate_succ, List.replicate_zero, List.cons_append, List.nil_append]; refine run_ok tok 400 _ _ ?_; simp only [↓reduceIte, run_opsNil, run_op, run_skip, run_seq, run_block, run_cond, run_ret, run_region, run_loop, dop, ev, ofV, ofLeaf, put, told, dBin, dLen, dBuiltin, pureP, pureO, tab, List.getD_cons_zero, List.getD_cons_succ, List.set_cons_zero, List.set_cons_succ, Option.map_some, true_and, List.map_cons, List.map_nil]
  simp only [ne_eq, not_true_eq_false, decide_false, sel_false]
  refine D.loopI (fun k : Nat => ⟨rg 26 [(0, .sl 0 0 0 n p), (1, .sl 1 0 0 n q), (5, .i64 k)], [some (.one false (.arr 1 n (row1 a))), some (.one false (.arr 1 n (row1 a)))]⟩) (fun k => k ≤ n) (fun k => n - k) 0 [(0, 0), (1, 0)] (Nat.zero_le _) ?_ ?_
  · simp [idTo, noW, fstNodup, cV, cE, cL, cLs, cVs, cView, cEnt, cRow, look, Row.z, Row.n, Row.at, Ent.w, Ent.m, Ent.row, lessP, rg, List.replicate_succ]
  · intro k hk
    simp only [rg, List.replicate_succ, List.replicate_zero, List.set_cons_zero, List.set_cons_succ]
    refine run_ok tok 400 _ _ ?_; simp only [↓reduceIte, run_opsNil, run_op, run_skip, run_seq, run_block, run_cond, run_exit, run_ret, run_region, run_drawn, dop, ev, ofV, ofLeaf, put, told, exitT, dBin, dLen, dBuiltin, pureP, pureO, tab, List.getD_cons_zero, List.getD_cons_succ, List.set_cons_zero, List.set_cons_succ, Option.map_some, true_and, List.map_cons, List.map_nil]
    refine ⟨fun h => ?_, fun h => ?_⟩ <;> try simp only [decide_eq_true_eq, decide_eq_false_iff_not] at h
    · refine D.draw1 (by rfl) [[], [], [0, 1], [0, 1, 2], [], [], [4, 5], [4, 5, 6], [0, 1, 2, 3, 4, 5, 6, 7]] (by simp only [List.length_cons, List.length_nil, Nat.reduceAdd, Nat.reduceLeDiff]) ?_; refine runD_ok (A := [[], [], [0, 1], [0, 1, 2], [], [], [4, 5], [4, 5, 6], [0, 1, 2, 3, 4, 5, 6, 7]]) (ws := []) (n0 := 2) tok 0 _ _ _ _ rfl ?_; simp only [runD_nil, runD_op, obl, newX, wokB, seenOpts, seenV, seenE, seenL, xOf, wX, Wof, upto, maskH, merge, mergeH, Ent.flag, allW, List.contains_nil, List.contains_cons, List.lookup_nil, Bool.or_false, Bool.or_true, Nat.reduceBEq, Nat.sub_self, Nat.le_refl, beq_self_eq_true, and_self, and_true, true_and, ↓reduceIte, dop, ev, put, dBin, dIndexAddr, dLoad, Row.z, Row.n, Row.at, Ent.w, Ent.m, Ent.row, look, pureP, tab, TK.agg, List.getD_cons_zero, List.getD_cons_succ, List.set_cons_zero, List.set_cons_succ, Option.map_some, Option.join_some, List.getElem?_cons_zero, List.getElem?_cons_succ, Bool.false_eq_true, true_and, and_true, List.length_cons, List.length_nil, Nat.reduceAdd, List.cons_append, List.nil_append, List.append_nil, List.drop_zero, List.drop_succ_cons, List.drop_nil, List.take_succ_cons, List.take_nil, List.headD_cons, List.map_nil, List.all_nil, Bool.and_self, Nat.zero_lt_succ, Nat.lt_add_one, or_true, Nat.zero_add, decide_true, Int.toNat_natCast]
      refine ⟨⟨by omega, by omega⟩, by omega, ⟨by omega, by omega⟩, by omega, ?_⟩
      refine ⟨by rfl, ?_⟩
      refine run_ok tok 400 _ _ ?_; simp only [↓reduceIte, run_blk, run_back, run_opsNil, run_op, run_skip, run_seq, run_cond, run_ret, run_region, dop, ev, ofV, ofLeaf, put, told, dBin, pureP, List.getD_cons_zero, List.getD_cons_succ, List.set_cons_zero, List.set_cons_succ, Option.map_some, true_and]
      simp only [ne_eq, not_true_eq_false, decide_false, sel_false]
      refine ⟨k + 1, [(0, 0), (1, 0)], by omega, by omega, ?_⟩
      have hw : IntKind.i64.wrap ((k : Int) + 1) = ((k + 1 : Nat) : Int) := by rw [IntKind.wrap_i64]; omega
      simp (config := {contextual := true}) [idTo, noW, fstNodup, cV, cE, cL, cLs, cVs, cView, cEnt, cRow, look, Row.z, Row.n, Row.at, Ent.w, Ent.m, Ent.row, lessP, hw]
    · refine Out.of [(0, 0), (1, 0)] ?_; simp (config := {contextual := true}) [outP, outOf, resL, idTo, noW, fstNodup, cV, cE, cL, cLs, cView, cEnt, cRow, look, Row.z, Row.n, Row.at, Ent.w, Ent.m, Ent.row]
theorem t47n : Tri Try.prog 47 [.nils, .nils] [] (.bool true) [] := by
  refine Tri.of tok Try.func47 rfl ?_; simp only [Try.ntmps47, Try.results47, List.length_cons, List.length_nil, Nat.reduceAdd, Nat.reduceSub, List.replicate_succ, List.replicate_zero, List.cons_append, List.nil_append]; refine run_ok tok 400 _ _ ?_; simp only [↓reduceIte, run_opsNil, run_op, run_skip, run_seq, run_block, run_cond, run_ret, run_region, run_loop, dop, ev, ofV, ofLeaf, put, told, dBin, dLen, dBuiltin, pureP, pureO, tab, List.getD_cons_zero, List.getD_cons_succ, List.set_cons_zero, List.set_cons_succ, Option.map_some, true_and, List.map_cons, List.map_nil]
  simp only [ne_eq, not_true_eq_false, decide_false, sel_false]
  refine D.loopI (fun k : Nat => ⟨rg 26 [(0, .nils), (1, .nils), (5, .i64 0)], []⟩) (fun k => k = 0) (fun k => 0) 0 [] rfl ?_ ?_
  · simp [idTo, noW, fstNodup, cV, cE, cL, cVs, cView, Ent.w, lessP, rg, List.replicate_succ]
  · intro k hk
    simp only [rg, List.replicate_succ, List.replicate_zero, List.set_cons_zero, List.set_cons_succ]
    refine run_ok tok 400 _ _ ?_; simp only [↓reduceIte, run_opsNil, run_op, run_skip, run_seq, run_block, run_cond, run_exit, run_ret, run_region, run_drawn, dop, ev, ofV, ofLeaf, put, told, exitT, dBin, dLen, dBuiltin, pureP, pureO, tab, List.getD_cons_zero, List.getD_cons_succ, List.set_cons_zero, List.set_cons_succ, Option.map_some, true_and, List.map_cons, List.map_nil, Nat.lt_irrefl]
    simp only [decide_false, sel_false, Int.lt_irrefl]
    refine Out.of [] ?_; simp (config := {contextual := true}) [outP, outOf, resL, idTo, noW, fstNodup, cV, cE, cL, cView, Ent.w]
theorem t67 (n p : Nat) (hn : n ≤ 1048576) (k : Nat) (hk : k ≤ 67108864) (a : Nat → Int) : Tri Try.prog 67 [.sl 0 0 0 n p, .i64 k] [some (.one true (.arr 1 n (row1 a)))]
   (.i64 (k + 1 * n : Nat)) [some (.one true (.arr 1 n (row1 (fun i => (k + 1 * i : Nat)))))] := by
  refine Tri.of tok Try.func67 rfl ?_; simp only [Try.ntmps67, Try.results67, List.length_cons, List.length_nil, Nat.reduceAdd, Nat.reduceSub, List.replicate_succ, List.replicate_zero, List.cons_append, List.nil_append]; refine run_ok tok 400 _ _ ?_; simp only [run_opsNil, run_op, run_seq, run_block, run_region, run_loop, dop, ev, ofV, ofLeaf, put, List.set_cons_zero, List.set_cons_succ, true_and]
  refine D.loopI (fun i : Nat => ⟨rg 19 [(0, .sl 0 0 0 n p), (1, .i64 (k + 1 * i : Nat)), (5, .i64 i)], [some (.one true (.arr 1 n fun j => if j < i then [.i64 (k + 1 * j : Nat)] else row1 a j))]⟩) (fun i => i ≤ n) (fun i => n - i) 0 [(0, 0)] (Nat.zero_le _) ?_ ?_
  · simp (config := {contextual := true}) [idTo, noW, fstNodup, cV, cE, cL, cLs, cVs, cView, cEnt, cRow, look, Row.z, Row.n, Row.at, Ent.w, Ent.m, Ent.row, lessP, rg, List.replicate_succ]
  · intro i hi
    simp only [rg, List.replicate_succ, List.replicate_zero, List.set_cons_zero, List.set_cons_succ]
    refine run_ok tok 400 _ _ ?_; simp only [↓reduceIte, run_blk, run_back, run_opsNil, run_op, run_skip, run_seq, run_block, run_cond, run_exit, run_ret, run_region, dop, ev, ofV, ofLeaf, put, told, exitT, dBin, dIndexAddr, dLen, dBuiltin, dStore, splice, cellsOf, DV.leaf, Row.z, Row.n, Row.at, Row.upd, Ent.w, Ent.m, Ent.row, Ent.upd, look, pureP, pureO, tab, List.getD_cons_zero, List.getD_cons_succ, List.set_cons_zero, List.set_cons_succ, Option.map_some, Option.join_some, List.getElem?_cons_zero, true_and, and_true, List.length_cons, List.length_nil, List.nil_append, List.append_nil, List.drop_succ_cons, List.drop_nil, List.take_zero, List.map_cons, List.map_nil, List.all_cons, List.all_nil, Bool.and_self, Nat.lt_irrefl, Nat.reduceLeDiff, Nat.lt_add_one, Nat.zero_add, Int.toNat_natCast]
    refine ⟨fun h => ?_, fun h => ?_⟩ <;> try simp only [decide_eq_true_eq, decide_eq_false_iff_not] at h
    · refine ⟨⟨by omega, by omega⟩, by omega, i + 1, [(0, 0)], by omega, by omega, ?_⟩
      have hw : IntKind.i64.wrap ((i : Int) + 1) = ((i + 1 : Nat) : Int) := by rw [IntKind.wrap_i64]; omega
      have hw1 : IntKind.i64.wrap (((k + 1 * i : Nat) : Int) + 1) = ((k + 1 * (i + 1) : Nat) : Int) := by rw [IntKind.wrap_i64]; omega
      simp only [hw, hw1]
      simp (config := {contextual := true}) [idTo, noW, fstNodup, cV, cE, cL, cVs, cView, cEnt, cRow, look, Row.z, Row.n, Row.at, Ent.w, Ent.m, Ent.row, lessP]
      intro j hj
      rcases Nat.lt_trichotomy j i with h | h | h
      · simp [h, Nat.ne_of_lt h, Nat.lt_succ_of_lt h, cLs, cL]
      · simp [h, cLs, cL]
      · have h1 : ¬ j < i := by omega
        have h2 : ¬ j = i := by omega
        have h3 : ¬ j < i + 1 := by omega
        simp [h1, h2, h3, cLs, cL]
    · refine Out.of [(0, 0)] ?_
      obtain rfl : i = n := by omega
      simp (config := {contextual := true}) [outP, outOf, resL, idTo, noW, fstNodup, cV, cE, cL, cLs, cView, cEnt, cRow, look, Row.z, Row.n, Row.at, Ent.w, Ent.m, Ent.row]
theorem t69 (n p : Nat) (hn : n ≤ 1048576) (k : Nat) (hk : k ≤ 67108864) : Tri Try.prog 69 [.sl 0 0 0 n p, .i64 k] [some (.one false (.arr 1 n (row1 (fun i => (k + 1 * i : Nat)))))]
   (.i64 (k + 1 * n : Nat)) [some (.one false (.arr 1 n (row1 (fun i => (k + 1 * i : Nat)))))] := by
  refine Tri.of tok Try.func69 rfl ?_; simp only [Try.ntmps69, Try.results69, List.length_cons, List.length_nil, Nat.reduceAdd, Nat.reduceSub, List.replicate_succ, List.replicate_zero, List.cons_append, List.nil_append]; refine run_ok tok 400 _ _ ?_; simp only [run_opsNil, run_op, run_seq, run_block, run_region, run_loop, dop, ev, ofV, ofLeaf, put, List.set_cons_zero, List.set_cons_succ, true_and]
  refine D.loopI (fun i : Nat => ⟨rg 21 [(0, .sl 0 0 0 n p), (1, .i64 (k + 1 * i : Nat)), (5, .i64 i)], [some (.one false (.arr 1 n (row1 (fun i => (k + 1 * i : Nat)))))]⟩) (fun i => i ≤ n) (fun i => n - i) 0 [(0, 0)] (Nat.zero_le _) ?_ ?_
  · simp (config := {contextual := true}) [idTo, noW, fstNodup, cV, cE, cL, cLs, cVs, cView, cEnt, cRow, look, Row.z, Row.n, Row.at, Ent.w, Ent.m, Ent.row, lessP, rg, List.replicate_succ]
  · intro i hi
    simp only [rg, List.replicate_succ, List.replicate_zero, List.set_cons_zero, List.set_cons_succ]
    refine run_ok tok 400 _ _ ?_; simp only [↓reduceIte, run_blk, run_back, run_opsNil, run_op, run_skip, run_seq, run_block, run_cond, run_exit, run_ret, run_region, dop, ev, ofV, ofLeaf, put, told, exitT, dBin, dIndexAddr, dLen, dBuiltin, dLoad, Row.z, Row.n, Row.at, Ent.m, Ent.row, look, pureP, pureO, tab, TK.agg, List.getD_cons_zero, List.getD_cons_succ, List.set_cons_zero, List.set_cons_succ, Option.map_some, Option.join_some, List.getElem?_cons_zero, Bool.false_eq_true, true_and, and_true, List.drop_zero, List.take_succ_cons, List.take_nil, List.headD_cons, List.map_cons, List.map_nil, Nat.reduceLeDiff, Nat.lt_add_one, or_true, Nat.zero_add, Int.toNat_natCast]
    refine ⟨fun h => ?_, fun h => ?_⟩ <;> try simp only [decide_eq_true_eq, decide_eq_false_iff_not] at h
    · have hw : IntKind.i64.wrap ((i : Int) + 1) = ((i + 1 : Nat) : Int) := by rw [IntKind.wrap_i64]; omega
      have hw1 : IntKind.i64.wrap (((k + 1 * i : Nat) : Int) + 1) = ((k + 1 * (i + 1) : Nat) : Int) := by rw [IntKind.wrap_i64]; omega
      simp only [hw, hw1, ne_eq, not_true_eq_false, decide_false, sel_false]
      refine ⟨⟨by omega, by omega⟩, by omega, i + 1, [(0, 0)], by omega, by omega, ?_⟩
      simp (config := {contextual := true}) [idTo, noW, fstNodup, cV, cE, cL, cLs, cVs, cView, cEnt, cRow, look, Row.z, Row.n, Row.at, Ent.w, Ent.m, Ent.row, lessP]
    · refine Out.of [(0, 0)] ?_
      obtain rfl : i = n := by omega
      simp (config := {contextual := true}) [outP, outOf, resL, idTo, noW, fstNodup, cV, cE, cL, cLs, cView, cEnt, cRow, look, Row.z, Row.n, Row.at, Ent.w, Ent.m, Ent.row]
theorem t67n (k : Int) : Tri Try.prog 67 [.nils, .i64 k] [] (.i64 k) [] := by
  refine Tri.of tok Try.func67 rfl ?_; simp only [Try.ntmps67, Try.results67, List.length_cons, List.length_nil, Nat.reduceAdd, Nat.reduceSub, List.replicate_succ, List.replicate_zero, List.cons_append, List.nil_append]; refine run_ok tok 400 _ _ ?_; simp only [run_opsNil, run_op, run_seq, run_block, run_region, run_loop, dop, ev, ofV, ofLeaf, put, List.set_cons_zero, List.set_cons_succ, true_and]
  refine D.loopI (fun i : Nat => ⟨rg 19 [(0, .nils), (1, .i64 k), (5, .i64 0)], []⟩) (fun i => i = 0) (fun i => 0) 0 [] rfl ?_ ?_
  · simp [idTo, noW, fstNodup, cV, cE, cL, cVs, cView, Ent.w, lessP, rg, List.replicate_succ]
  · intro i hi
    simp only [rg, List.replicate_succ, List.replicate_zero, List.set_cons_zero, List.set_cons_succ]
    refine run_ok tok 400 _ _ ?_; simp only [↓reduceIte, run_opsNil, run_op, run_skip, run_seq, run_block, run_cond, run_exit, run_ret, run_region, dop, ev, put, told, exitT, dBin, dIndexAddr, dLen, dBuiltin, pureP, pureO, tab, List.getD_cons_zero, List.getD_cons_succ, List.set_cons_zero, List.set_cons_succ, Option.map_some, Option.map_none, true_and, List.map_cons, List.map_nil, Nat.lt_irrefl]
    simp only [decide_false, sel_false, Int.lt_irrefl]
    refine Out.of [] ?_; simp (config := {contextual := true}) [outP, outOf, resL, idTo, noW, fstNodup, cV, cE, cL, cView, Ent.w]
theorem t69n (k : Int) : Tri Try.prog 69 [.nils, .i64 k] [] (.i64 k) [] := by
  refine Tri.of tok Try.func69 rfl ?_; simp only [Try.ntmps69, Try.results69, List.length_cons, List.length_nil, Nat.reduceAdd, Nat.reduceSub, List.replicate_succ, List.replicate_zero, List.cons_append, List.nil_append]; refine run_ok tok 400 _ _ ?_; simp only [run_opsNil, run_op, run_seq, run_block, run_region, run_loop, dop, ev, ofV, ofLeaf, put, List.set_cons_zero, List.set_cons_succ, true_and]
  refine D.loopI (fun i : Nat => ⟨rg 21 [(0, .nils), (1, .i64 k), (5, .i64 0)], []⟩) (fun i => i = 0) (fun i => 0) 0 [] rfl ?_ ?_
  · simp [idTo, noW, fstNodup, cV, cE, cL, cVs, cView, Ent.w, lessP, rg, List.replicate_succ]
  · intro i hi
    simp only [rg, List.replicate_succ, List.replicate_zero, List.set_cons_zero, List.set_cons_succ]
    refine run_ok tok 400 _ _ ?_; simp only [↓reduceIte, run_opsNil, run_op, run_skip, run_seq, run_block, run_cond, run_exit, run_ret, run_region, dop, ev, put, told, exitT, dBin, dIndexAddr, dLen, dBuiltin, pureP, pureO, tab, List.getD_cons_zero, List.getD_cons_succ, List.set_cons_zero, List.set_cons_succ, Option.map_some, Option.map_none, true_and, List.map_cons, List.map_nil, Nat.lt_irrefl]
    simp only [decide_false, sel_false, Int.lt_irrefl]
    refine Out.of [] ?_; simp (config := {contextual := true}) [outP, outOf, resL, idTo, noW, fstNodup, cV, cE, cL, cView, Ent.w]
set_option maxHeartbeats 8000000 in
theorem t25 (n p : Nat) (hn : n ≤ 1048576) (k : Nat) (hk0 : 0 < k) (hk : k ≤ 67108864) (e : EF) : Tri Try.prog 25 [.sl 0 0 0 n p, .i64 k] [some (.one true (.arr 6 n (rowC e)))]
   (.i64 (k + 6 * n : Nat)) [some (.one true (.arr 6 n (rowC (mkC k))))] := by
  refine Tri.of tok Try.func25 rfl ?_; simp only [Try.ntmps25, Try.results25, List.length_cons, List.length_nil, Nat.reduceAdd, Nat.reduceSub, List.replicate_succ, List.replicate_zero, List.cons_append, List.nil_append]; refine run_ok tok 400 _ _ ?_; simp only [run_opsNil, run_op, run_seq, run_block, run_region, run_loop, dop, ev, ofV, ofLeaf, put, List.set_cons_zero, List.set_cons_succ, true_and]
  refine D.loopI (fun i : Nat => ⟨rg 56 [(0, .sl 0 0 0 n p), (1, .i64 (k + 6 * i : Nat)), (5, .i64 i)], [some (.one true (.arr 6 n fun j => if j < i then [.i64 (k + 6 * j : Nat), .i64 (k + 6 * j + 1 : Nat), .i64 (k + 6 * j + 2 : Nat), .i64 (k + 6 * j + 3 : Nat), .i64 (k + 6 * j + 4 : Nat), .str (markT (k + 6 * j + 5))] else [.i64 (e.k j), .i64 (e.s j), .i64 (e.c j), .i64 (e.a j), .i64 (e.o j), .str (e.x j)]))]⟩) (fun i => i ≤ n) (fun i => n - i) 0 [(0, 0)] (Nat.zero_le _) ?_ ?_
  · simp (config := {contextual := true}) [idTo, noW, fstNodup, cV, cE, cL, cLs, cVs, cView, cEnt, cRow, look, Row.z, Row.n, Row.at, Ent.w, Ent.m, Ent.row, lessP, rg, List.replicate_succ]
  · intro i hi
    simp only [rg, List.replicate_succ, List.replicate_zero, List.set_cons_zero, List.set_cons_succ]
    refine run_ok tok 400 _ _ ?_; simp only [↓reduceIte, run_opsNil, run_op, run_skip, run_seq, run_block, run_cond, run_exit, run_ret, run_region, dop, ev, ofV, ofLeaf, put, told, exitT, dBin, dFieldAddr, dIndexAddr, dLen, dBuiltin, dStore, splice, cellsOf, DV.leaf, Row.z, Row.n, Row.at, Row.upd, Ent.w, Ent.m, Ent.row, Ent.upd, look, pureP, pureO, tab, List.getD_cons_zero, List.getD_cons_succ, List.set_cons_zero, List.set_cons_succ, Option.map_some, Option.join_some, List.getElem?_cons_zero, List.getElem?_cons_succ, true_and, and_true, List.length_cons, List.length_nil, Nat.reduceAdd, List.cons_append, List.nil_append, List.drop_zero, List.drop_succ_cons, List.take_zero, List.take_succ_cons, List.map_cons, List.map_nil, List.all_cons, List.all_nil, Bool.and_self, Nat.lt_irrefl, Nat.reduceLeDiff, Nat.lt_add_one, Nat.add_zero, Nat.zero_add, Int.toNat_natCast, reduceCtorEq]
    refine ⟨fun h => ?_, fun h => ?_⟩ <;> try simp only [decide_eq_true_eq, decide_eq_false_iff_not] at h
    · have hw : IntKind.i64.wrap ((i : Int) + 1) = ((i + 1 : Nat) : Int) := by rw [IntKind.wrap_i64]; omega
      have hw1 : IntKind.i64.wrap (((k + 6 * i : Nat) : Int) + 1) = ((k + 6 * i + 1 : Nat) : Int) := by rw [IntKind.wrap_i64]; omega
      have hw2 : IntKind.i64.wrap (((k + 6 * i + 1 : Nat) : Int) + 1) = ((k + 6 * i + 2 : Nat) : Int) := by rw [IntKind.wrap_i64]; omega
      have hw3 : IntKind.i64.wrap (((k + 6 * i + 2 : Nat) : Int) + 1) = ((k + 6 * i + 3 : Nat) : Int) := by rw [IntKind.wrap_i64]; omega
      have hw4 : IntKind.i64.wrap (((k + 6 * i + 3 : Nat) : Int) + 1) = ((k + 6 * i + 4 : Nat) : Int) := by rw [IntKind.wrap_i64]; omega
      have hw5 : IntKind.i64.wrap (((k + 6 * i + 4 : Nat) : Int) + 1) = ((k + 6 * i + 5 : Nat) : Int) := by rw [IntKind.wrap_i64]; omega
      have hw6 : IntKind.i64.wrap (((k + 6 * i + 5 : Nat) : Int) + 1) = ((k + 6 * (i + 1) : Nat) : Int) := by rw [IntKind.wrap_i64]; omega
      refine ⟨⟨by omega, by omega⟩, by omega, ⟨by omega, by omega⟩, by omega, ⟨by omega, by omega⟩, by omega, ⟨by omega, by omega⟩, by omega, ⟨by omega, by omega⟩, by omega, ?_⟩
      simp only [hw1, hw2, hw3, hw4, hw5]
      refine D.call Try.func72 [] (t72 (k + 6 * i + 5) (by omega) (by omega)) ?_; simp only [callP, callOk, wOk, jsOf, noW, fstNodup, allW, sig, renV, renE, renL, afterH, backH, capV, cV, cE, cL, cVs, cView, ev, Ent.w, put, List.lookup_nil, Bool.or_true, Bool.and_true, List.all_nil, List.getD_cons_zero, List.getD_cons_succ, List.set_cons_zero, List.set_cons_succ, List.length_cons, List.length_nil, List.drop_nil, List.map_cons, List.map_nil, List.append_nil, Nat.zero_add, decide_true, true_and, and_self]; refine run_ok tok 400 _ _ ?_; simp only [↓reduceIte, run_blk, run_back, run_opsNil, run_op, run_region, dop, ev, ofV, ofLeaf, put, dBin, dFieldAddr, dIndexAddr, dStore, splice, cellsOf, DV.leaf, Row.z, Row.n, Row.at, Row.upd, Ent.w, Ent.m, Ent.row, Ent.upd, look, pureP, pureO, tab, List.getD_cons_zero, List.getD_cons_succ, List.set_cons_zero, List.set_cons_succ, Option.map_some, Option.join_some, List.getElem?_cons_zero, List.getElem?_cons_succ, true_and, and_true, List.length_cons, List.length_nil, Nat.reduceAdd, List.cons_append, List.nil_append, List.append_nil, List.drop_succ_cons, List.drop_nil, List.take_zero, List.take_succ_cons, List.all_cons, List.all_nil, Bool.and_self, Nat.reduceLeDiff, Nat.lt_add_one, Nat.zero_add, Int.toNat_natCast, reduceCtorEq]
      refine ⟨⟨by omega, by omega⟩, by omega, i + 1, [(0, 0)], by omega, by omega, ?_⟩
      simp only [hw, hw6]
      simp (config := {contextual := true}) [idTo, noW, fstNodup, cV, cE, cL, cVs, cView, cEnt, cRow, look, Row.z, Row.n, Row.at, Ent.w, Ent.m, Ent.row, lessP]
      intro j hj
      rcases Nat.lt_trichotomy j i with h | h | h
      · simp [h, Nat.ne_of_lt h, Nat.lt_succ_of_lt h, cLs, cL]
      · simp [h, cLs, cL]
      · have h1 : ¬ j < i := by omega
        have h2 : ¬ j = i := by omega
        have h3 : ¬ j < i + 1 := by omega
        simp [h1, h2, h3, cLs, cL]
    · refine Out.of [(0, 0)] ?_
      obtain rfl : i = n := by omega
      simp (config := {contextual := true}) [outP, outOf, resL, idTo, noW, fstNodup, cV, cE, cL, cLs, cView, cEnt, cRow, look, Row.z, Row.n, Row.at, Ent.w, Ent.m, Ent.row, mkC]
set_option maxHeartbeats 8000000 in
theorem t26 (n p : Nat) (hn : n ≤ 1048576) (k : Nat) (hk0 : 0 < k) (hk : k ≤ 67108864) : Tri Try.prog 26 [.sl 0 0 0 n p, .i64 k] [some (.one false (.arr 6 n (rowC (mkC k))))]
   (.i64 (k + 6 * n : Nat)) [some (.one false (.arr 6 n (rowC (mkC k))))] := by
  refine Tri.of tok Try.func26 rfl ?_; simp only [Try.ntmps26, Try.results26, List.length_cons, List.length_nil, Nat.reduceAdd, Nat.reduceSub, List.replicate_succ, List.replicate_zero, List.cons_append, List.nil_append]; refine run_ok tok 400 _ _ ?_; simp only [run_opsNil, run_op, run_seq, run_block, run_region, run_loop, dop, ev, ofV, ofLeaf, put, List.set_cons_zero, List.set_cons_succ, true_and]
  refine D.loopI (fun i : Nat => ⟨rg 68 [(0, .sl 0 0 0 n p), (1, .i64 (k + 6 * i : Nat)), (5, .i64 i)], [some (.one false (.arr 6 n fun j => [.i64 (k + 6 * j : Nat), .i64 (k + 6 * j + 1 : Nat), .i64 (k + 6 * j + 2 : Nat), .i64 (k + 6 * j + 3 : Nat), .i64 (k + 6 * j + 4 : Nat), .str (markT (k + 6 * j + 5))]))]⟩) (fun i => i ≤ n) (fun i => n - i) 0 [(0, 0)] (Nat.zero_le _) ?_ ?_
  · simp (config := {contextual := true}) [idTo, noW, fstNodup, cV, cE, cL, cLs, cVs, cView, cEnt, cRow, look, Row.z, Row.n, Row.at, Ent.w, Ent.m, Ent.row, lessP, rg, List.replicate_succ, mkC]
  · intro i hi
    simp only [rg, List.replicate_succ, List.replicate_zero, List.set_cons_zero, List.set_cons_succ]
    refine run_ok tok 400 _ _ ?_; simp only [↓reduceIte, run_opsNil, run_op, run_skip, run_seq, run_block, run_cond, run_exit, run_ret, run_region, run_drawn, dop, ev, ofV, ofLeaf, put, told, exitT, dBin, dFieldAddr, dIndexAddr, dLen, dBuiltin, dLoad, Row.z, Row.n, Row.at, Ent.m, Ent.row, look, pureP, pureO, tab, TK.agg, List.getD_cons_zero, List.getD_cons_succ, List.set_cons_zero, List.set_cons_succ, Option.map_some, Option.join_some, List.getElem?_cons_zero, List.getElem?_cons_succ, Bool.false_eq_true, true_and, and_true, Nat.reduceAdd, List.drop_zero, List.drop_succ_cons, List.take_zero, List.take_succ_cons, List.headD_cons, List.map_cons, List.map_nil, Nat.reduceLeDiff, Nat.lt_add_one, or_true, Nat.add_zero, Nat.zero_add, Int.toNat_natCast, reduceCtorEq]
    refine ⟨fun h => ?_, fun h => ?_⟩ <;> try simp only [decide_eq_true_eq, decide_eq_false_iff_not] at h
    · have hw : IntKind.i64.wrap ((i : Int) + 1) = ((i + 1 : Nat) : Int) := by rw [IntKind.wrap_i64]; omega
      have hw1 : IntKind.i64.wrap (((k + 6 * i : Nat) : Int) + 1) = ((k + 6 * i + 1 : Nat) : Int) := by rw [IntKind.wrap_i64]; omega
      have hw2 : IntKind.i64.wrap (((k + 6 * i + 1 : Nat) : Int) + 1) = ((k + 6 * i + 2 : Nat) : Int) := by rw [IntKind.wrap_i64]; omega
      have hw3 : IntKind.i64.wrap (((k + 6 * i + 2 : Nat) : Int) + 1) = ((k + 6 * i + 3 : Nat) : Int) := by rw [IntKind.wrap_i64]; omega
      have hw4 : IntKind.i64.wrap (((k + 6 * i + 3 : Nat) : Int) + 1) = ((k + 6 * i + 4 : Nat) : Int) := by rw [IntKind.wrap_i64]; omega
      have hw5 : IntKind.i64.wrap (((k + 6 * i + 4 : Nat) : Int) + 1) = ((k + 6 * i + 5 : Nat) : Int) := by rw [IntKind.wrap_i64]; omega
      have hw6 : IntKind.i64.wrap (((k + 6 * i + 5 : Nat) : Int) + 1) = ((k + 6 * (i + 1) : Nat) : Int) := by rw [IntKind.wrap_i64]; omega
      simp only [hw1, hw2, hw3, hw4, hw5, ne_eq, not_true_eq_false, decide_false, sel_false]
      refine ⟨⟨by omega, by omega⟩, by omega, ⟨by omega, by omega⟩, by omega, ⟨by omega, by omega⟩, by omega, ⟨by omega, by omega⟩, by omega, ⟨by omega, by omega⟩, by omega, ?_⟩
      refine D.draw1 (by rfl) [[], [], [0, 1], [0, 1, 2], [0, 1, 2, 3], [], [5], [0, 1, 2, 3, 4, 5, 6]] (by simp only [List.length_cons, List.length_nil, Nat.reduceAdd, Nat.reduceLeDiff]) ?_; refine runD_ok (A := [[], [], [0, 1], [0, 1, 2], [0, 1, 2, 3], [], [5], [0, 1, 2, 3, 4, 5, 6]]) (ws := []) (n0 := 1) tok 0 _ _ _ _ rfl ?_; simp only [runD_op, obl, newX, wokB, seenOpts, seenV, seenE, seenL, xOf, wX, Wof, upto, maskH, merge, mergeH, Ent.flag, allW, List.contains_nil, List.contains_cons, List.lookup_nil, Bool.or_false, Bool.or_true, Nat.reduceBEq, Nat.sub_self, Nat.le_refl, beq_self_eq_true, and_self, and_true, true_and, ↓reduceIte, dop, ev, put, dFieldAddr, dIndexAddr, dLoad, Row.z, Row.n, Row.at, Ent.w, Ent.m, Ent.row, look, pureP, pureO, tab, TK.agg, List.getD_cons_zero, List.getD_cons_succ, List.set_cons_zero, List.set_cons_succ, Option.map_some, Option.join_some, List.getElem?_cons_zero, List.getElem?_cons_succ, Bool.false_eq_true, true_and, and_true, List.length_cons, List.length_nil, Nat.reduceAdd, List.cons_append, List.nil_append, List.append_nil, List.drop_zero, List.drop_succ_cons, List.drop_nil, List.take_succ_cons, List.take_nil, List.headD_cons, List.map_nil, List.all_nil, Bool.and_self, Nat.lt_add_one, or_true, Nat.zero_add, decide_true, Int.toNat_natCast, reduceCtorEq]
      refine ⟨⟨by omega, by omega⟩, by omega, ?_⟩
      refine Dr.call [[], [], [0, 1], [0, 1, 2], [0, 1, 2, 3], [], [5], [0, 1, 2, 3, 4, 5, 6]] [] 1 Try.func72 [] (t72 (k + 6 * i + 5) (by omega) (by omega)) ?_; simp only [↓reduceIte, callP, callOk, wOk, jsOf, noW, fstNodup, allW, sig, renV, renE, renL, afterH, backH, capV, cV, cE, cL, cVs, cView, ev, Ent.w, put, List.lookup_nil, Bool.or_true, Bool.or_false, beq_self_eq_true, List.all_nil, List.getD_cons_zero, List.getD_cons_succ, List.set_cons_zero, List.set_cons_succ, List.length_cons, List.length_nil, List.drop_succ_cons, List.drop_nil, List.map_cons, List.map_nil, List.cons_append, List.nil_append, List.append_nil, Option.map_some, Nat.reduceAdd, Nat.reduceBEq, Nat.zero_add, Nat.le_refl, decide_true, true_and, and_self, Bool.false_eq_true, Int.reduceNeg, obl, newX, wokB, seenOpts, seenV, seenE, seenL, xOf, wX, Wof, upto, maskH, merge, mergeH, Ent.flag, allW, List.contains_nil, List.contains_cons, List.lookup_nil, Bool.or_false, Bool.or_true, Nat.reduceBEq, Nat.sub_self, Nat.le_refl, beq_self_eq_true, and_self, true_and, ↓reduceIte, ev, put, Ent.w, List.getD_cons_zero, List.getD_cons_succ, List.set_cons_zero, List.set_cons_succ, Option.map_some, Bool.false_eq_true, true_and, List.length_cons, List.length_nil, Nat.reduceAdd, List.cons_append, List.nil_append, List.append_nil, List.drop_succ_cons, List.drop_nil, List.map_cons, List.map_nil, List.all_nil, Bool.and_self, Nat.zero_add, decide_true]
      refine runD_ok (A := [[], [], [0, 1], [0, 1, 2], [0, 1, 2, 3], [], [5], [0, 1, 2, 3, 4, 5, 6]]) (ws := []) (n0 := 1) tok _ _ _ _ _ rfl ?_; simp only [runD_nil, runD_op, obl, newX, wokB, seenOpts, seenV, seenE, seenL, xOf, wX, Wof, maskH, merge, mergeH, Ent.flag, allW, List.contains_nil, List.contains_cons, List.lookup_nil, Bool.or_false, Bool.or_true, Nat.reduceBEq, Nat.le_refl, beq_self_eq_true, and_self, true_and, ↓reduceIte, dop, ev, put, dBin, Ent.w, pureP, List.getD_cons_zero, List.getD_cons_succ, List.set_cons_zero, List.set_cons_succ, Option.map_some, Bool.false_eq_true, true_and, List.length_cons, List.length_nil, Nat.reduceAdd, List.cons_append, List.nil_append, List.append_nil, List.drop_succ_cons, List.drop_nil, List.map_nil, List.all_nil, Bool.and_self, Nat.zero_add, decide_true]
      refine ⟨by rfl, ?_⟩
      refine run_ok tok 400 _ _ ?_; simp only [↓reduceIte, run_blk, run_back, run_opsNil, run_op, run_skip, run_seq, run_cond, run_ret, run_region, dop, ev, ofV, ofLeaf, put, told, dBin, pureP, List.getD_cons_zero, List.getD_cons_succ, List.set_cons_zero, List.set_cons_succ, Option.map_some, true_and]
      simp only [ne_eq, not_true_eq_false, decide_false, sel_false]
      refine ⟨i + 1, [(0, 0)], by omega, by omega, ?_⟩
      simp only [hw, hw6]
      simp (config := {contextual := true}) [idTo, noW, fstNodup, cV, cE, cL, cLs, cVs, cView, cEnt, cRow, look, Row.z, Row.n, Row.at, Ent.w, Ent.m, Ent.row, lessP]
    · refine Out.of [(0, 0)] ?_
      obtain rfl : i = n := by omega
      simp (config := {contextual := true}) [outP, outOf, resL, idTo, noW, fstNodup, cV, cE, cL, cLs, cView, cEnt, cRow, look, Row.z, Row.n, Row.at, Ent.w, Ent.m, Ent.row, mkC]
theorem t25n (k : Int) : Tri Try.prog 25 [.nils, .i64 k] [] (.i64 k) [] := by
  refine Tri.of tok Try.func25 rfl ?_; simp only [Try.ntmps25, Try.results25, List.length_cons, List.length_nil, Nat.reduceAdd, Nat.reduceSub, List.replicate_succ, List.replicate_zero, List.cons_append, List.nil_append]; refine run_ok tok 400 _ _ ?_; simp only [run_opsNil, run_op, run_seq, run_block, run_region, run_loop, dop, ev, ofV, ofLeaf, put, List.set_cons_zero, List.set_cons_succ, true_and]
  refine D.loopI (fun i : Nat => ⟨rg 56 [(0, .nils), (1, .i64 k), (5, .i64 0)], []⟩) (fun i => i = 0) (fun i => 0) 0 [] rfl ?_ ?_
  · simp [idTo, noW, fstNodup, cV, cE, cL, cVs, cView, Ent.w, lessP, rg, List.replicate_succ]
  · intro i hi
    simp only [rg, List.replicate_succ, List.replicate_zero, List.set_cons_zero, List.set_cons_succ]
    refine run_ok tok 400 _ _ ?_; simp only [↓reduceIte, run_opsNil, run_op, run_skip, run_seq, run_block, run_cond, run_exit, run_ret, run_region, dop, ev, put, told, exitT, dBin, dIndexAddr, dLen, dBuiltin, pureP, pureO, tab, List.getD_cons_zero, List.getD_cons_succ, List.set_cons_zero, List.set_cons_succ, Option.map_some, Option.map_none, true_and, List.map_cons, List.map_nil, Nat.lt_irrefl]
    simp only [decide_false, sel_false, Int.lt_irrefl]
    refine Out.of [] ?_; simp (config := {contextual := true}) [outP, outOf, resL, idTo, noW, fstNodup, cV, cE, cL, cView, Ent.w]
theorem t26n (k : Int) : Tri Try.prog 26 [.nils, .i64 k] [] (.i64 k) [] := by
  refine Tri.of tok Try.func26 rfl ?_; simp only [Try.ntmps26, Try.results26, List.length_cons, List.length_nil, Nat.reduceAdd, Nat.reduceSub, List.replicate_succ, List.replicate_zero, List.cons_append, List.nil_append]; refine run_ok tok 400 _ _ ?_; simp only [run_opsNil, run_op, run_seq, run_block, run_region, run_loop, dop, ev, ofV, ofLeaf, put, List.set_cons_zero, List.set_cons_succ, true_and]
  refine D.loopI (fun i : Nat => ⟨rg 68 [(0, .nils), (1, .i64 k), (5, .i64 0)], []⟩) (fun i => i = 0) (fun i => 0) 0 [] rfl ?_ ?_
  · simp [idTo, noW, fstNodup, cV, cE, cL, cVs, cView, Ent.w, lessP, rg, List.replicate_succ]
  · intro i hi
    simp only [rg, List.replicate_succ, List.replicate_zero, List.set_cons_zero, List.set_cons_succ]
    refine run_ok tok 400 _ _ ?_; simp only [↓reduceIte, run_opsNil, run_op, run_skip, run_seq, run_block, run_cond, run_exit, run_ret, run_region, dop, ev, put, told, exitT, dBin, dIndexAddr, dLen, dBuiltin, pureP, pureO, tab, List.getD_cons_zero, List.getD_cons_succ, List.set_cons_zero, List.set_cons_succ, Option.map_some, Option.map_none, true_and, List.map_cons, List.map_nil, Nat.lt_irrefl]
    simp only [decide_false, sel_false, Int.lt_irrefl]
    refine Out.of [] ?_; simp (config := {contextual := true}) [outP, outOf, resL, idTo, noW, fstNodup, cV, cE, cL, cView, Ent.w]
theorem t49 (k s c a o : Int) (x : ByteArray) (l : Int) : Tri Try.prog 49 [dvC k s c a o x, .i64 l] [] (.i64 (lft l x.size)) [] := by
  refine Tri.of tok Try.func49 rfl ?_; simp only [Try.ntmps49, Try.results49, List.length_cons, List.length_nil, Nat.reduceAdd, Nat.reduceSub, List.replicate_succ, List.replicate_zero, List.cons_append, List.nil_append]; refine run_ok tok 400 _ _ ?_; simp only [↓reduceIte, run_opsNil, run_op, run_skip, run_seq, run_cond, run_ret, run_region, dop, ev, ofV, ofLeaf, put, told, dBin, dFieldAddr, dLen, dBuiltin, dBox, dLoad, newRow1, cellsOf, DV.leaf, Row.z, Row.n, Row.at, Ent.m, Ent.row, look, pureP, pureO, newP, tab, TK.agg, List.getD_cons_zero, List.getD_cons_succ, List.set_cons_zero, List.set_cons_succ, Option.map_some, Option.join_some, List.getElem?_cons_zero, List.getElem?_cons_succ, Bool.false_eq_true, true_and, and_true, List.length_cons, List.length_nil, Nat.reduceAdd, List.nil_append, List.drop_zero, List.drop_succ_cons, List.take_succ_cons, List.take_nil, List.headD_cons, List.map_cons, List.map_nil, List.all_cons, List.all_nil, Bool.and_self, Nat.reduceLeDiff, Nat.lt_add_one, or_true, Nat.zero_add, reduceCtorEq]
  refine ⟨fun h => ?_, fun h => ?_⟩ <;> try simp only [decide_eq_true_eq, decide_eq_false_iff_not] at h
  · refine Out.of [] ?_; simp (config := {contextual := true}) [outP, outOf, resL, idTo, noW, fstNodup, cV, cE, cL, cView, Ent.w, lft, h]
  · refine Out.of [] ?_; simp (config := {contextual := true}) [outP, outOf, resL, idTo, noW, fstNodup, cV, cE, cL, cView, Ent.w, lft, h]
theorem t82 (t k s c a o : Int) (x : ByteArray) (l : Int) : Tri Try.prog 82 [dvE t k s c a o x, .i64 l] [] (.i64 (if lft l x.size < 0 then -1 else lft l x.size)) [] := by
  refine Tri.of tok Try.func82 rfl ?_; simp only [Try.ntmps82, Try.results82, List.length_cons, List.length_nil, Nat.reduceAdd, Nat.reduceSub, List.replicate_succ, List.replicate_zero, List.cons_append, List.nil_append]; refine run_ok tok 400 _ _ ?_; simp only [↓reduceIte, run_opsNil, run_op, run_seq, run_region, dop, ev, ofV, ofLeaf, put, dFieldAddr, dBox, dLoad, newRow1, cellsOf, DV.leaf, Row.z, Row.n, Row.at, Ent.m, Ent.row, look, pureP, pureO, newP, tab, TK.agg, List.getD_cons_zero, List.getD_cons_succ, List.set_cons_zero, List.set_cons_succ, Option.map_some, Option.join_some, List.getElem?_cons_zero, List.getElem?_cons_succ, true_and, and_true, List.length_cons, List.length_nil, Nat.reduceAdd, List.nil_append, List.drop_zero, List.drop_succ_cons, List.take_succ_cons, List.take_nil, List.all_cons, List.all_nil, Bool.and_self, Nat.reduceLeDiff, Nat.lt_add_one, true_or, Nat.zero_add, reduceCtorEq, Nat.reduceEqDiff]
  refine D.call Try.func49 [] (t49 k s c a o x l) ?_; simp only [callP, callOk, wOk, jsOf, noW, fstNodup, allW, sig, renV, renE, renL, afterH, backH, capV, cV, cE, cL, cLs, cVs, cView, ev, Ent.w, put, List.lookup_nil, Bool.or_true, Bool.and_true, List.all_nil, List.getD_cons_zero, List.getD_cons_succ, List.set_cons_zero, List.set_cons_succ, List.length_cons, List.length_nil, List.drop_nil, List.map_cons, List.map_nil, List.append_nil, Nat.zero_add, decide_true, true_and, and_self, Int.reduceNeg]; refine run_ok tok 400 _ _ ?_; simp only [↓reduceIte, run_opsNil, run_op, run_skip, run_seq, run_cond, run_ret, run_region, dop, ev, ofV, ofLeaf, put, told, dBin, pureP, List.getD_cons_zero, List.getD_cons_succ, List.set_cons_zero, List.set_cons_succ, Option.map_some, true_and]
  refine ⟨fun h => ?_, fun h => ?_⟩ <;> try simp only [decide_eq_true_eq, decide_eq_false_iff_not] at h
  · refine Out.of [] ?_; simp (config := {contextual := true}) [outP, outOf, resL, idTo, noW, fstNodup, cV, cE, cL, cView, Ent.w, h]
  · refine Out.of [] ?_; simp (config := {contextual := true}) [outP, outOf, resL, idTo, noW, fstNodup, cV, cE, cL, cView, Ent.w, h]
def sz1 (l : Int) (x : ByteArray) : Int := if lft l x.size < 0 then -1 else lft l x.size
def szS (l : Int) (x : Nat → ByteArray) : Nat → Int
  | 0 => l
  | i + 1 => if szS l x i < 0 then -1 else if sz1 (szS l x i) (x i) < 0 then -1 else sz1 (szS l x i) (x i)
theorem szS_neg (l : Int) (x : Nat → ByteArray) {i : Nat} (h : szS l x (i + 1) < 0) : ∀ j, i + 1 ≤ j → szS l x j = -1
  | 0, hj => by omega
  | j + 1, hj => by
    by_cases hij : i = j
    · subst hij
      simp only [szS] at h ⊢
      split
      · rfl
      · split
        · rfl
        · rename_i h1 h2; simp only [h1, h2, if_false] at h
    · have := szS_neg l x h j (by omega)
      simp only [szS, this]
      rfl
def szE (l : Int) (n : Nat) (x : Nat → ByteArray) : Int := if IntKind.i64.wrap (l - n) < 0 then -1 else szS (IntKind.i64.wrap (l - n)) x n
theorem szS_nn {l : Int} {x : Nat → ByteArray} (hl : l ≤ 1048576) : ∀ {n : Nat}, (∀ i, i < n → (x i).size ≤ 9223372036854775807) → ¬ szS l x n < 0 → 0 ≤ szS l x n ∧ szS l x n ≤ 1048576
  | 0, _, h => by simp only [szS] at *; omega
  | n + 1, hx, h => by
    simp only [szS] at *
    by_cases h1 : szS l x n < 0
    · rw [if_pos h1] at h; omega
    rw [if_neg h1] at h ⊢
    have ih := szS_nn hl (fun i hi => hx i (by omega)) h1
    by_cases h2 : sz1 (szS l x n) (x n) < 0
    · rw [if_pos h2] at h; omega
    rw [if_neg h2] at h ⊢
    unfold sz1 at *
    by_cases h3 : lft (szS l x n) (x n).size < 0
    · rw [if_pos h3] at h2; omega
    rw [if_neg h3] at h2 ⊢
    exact (lft_nn ih (hx n (by omega)) h3).2
theorem szE_nn {l : Int} {n : Nat} {x : Nat → ByteArray} (hl : 0 ≤ l ∧ l ≤ 1048576) (hn : n ≤ 9223372036854775807) (hx : ∀ i, i < n → (x i).size ≤ 9223372036854775807) (h : ¬ szE l n x < 0) : n ≤ 1048576 ∧ (0 ≤ szE l n x ∧ szE l n x ≤ 1048576) := by
  unfold szE at *
  have hw : IntKind.i64.wrap (l - n) = l - n := by rw [IntKind.wrap_i64]; omega
  rw [hw] at h ⊢
  by_cases h0 : l - (n : Int) < 0
  · rw [if_pos h0] at h; omega
  · rw [if_neg h0] at h ⊢
    exact ⟨by omega, szS_nn (by omega) hx h⟩
set_option maxHeartbeats 4000000 in
theorem t33 (n : Nat) (hn9 : n ≤ 9223372036854775807) (l : Int) (e : EF) : Tri Try.prog 33 [.sl 0 0 0 n 0, .i64 l] [some (.one false (.arr 7 n (rowE e)))] (.i64 (szE l n e.x)) [some (.one false (.arr 7 n (rowE e)))] := by
  refine Tri.of tok Try.func33 rfl ?_; simp only [Try.ntmps33, Try.results33, List.length_cons, List.length_nil, Nat.reduceAdd, Nat.reduceSub, List.replicate_succ, List.replicate_zero, List.cons_append, List.nil_append]; refine run_ok tok 400 _ _ ?_; simp only [↓reduceIte, run_opsNil, run_op, run_skip, run_seq, run_block, run_cond, run_ret, run_region, run_loop, dop, ev, ofV, ofLeaf, put, told, dBin, dLen, dBuiltin, pureP, pureO, tab, List.getD_cons_zero, List.getD_cons_succ, List.set_cons_zero, List.set_cons_succ, Option.map_some, true_and, List.map_cons, List.map_nil]
  refine ⟨fun h => ?_, fun h => ?_⟩ <;> try simp only [decide_eq_true_eq, decide_eq_false_iff_not] at h
  · refine Out.of [(0, 0)] ?_; simp (config := {contextual := true}) [outP, outOf, resL, idTo, noW, fstNodup, cV, cE, cL, cLs, cView, cEnt, cRow, look, Row.z, Row.n, Row.at, Ent.w, Ent.m, Ent.row, szE, h]
  have hz : szE l n e.x = szS (IntKind.i64.wrap (l - n)) e.x n := by unfold szE; rw [if_neg h]
  rw [hz]
  generalize IntKind.i64.wrap (l - n) = l1 at h ⊢
  refine D.loopI (fun k : Nat => ⟨rg 27 [(0, .sl 0 0 0 n 0), (1, .i64 (szS l1 e.x k)), (5, .i64 k)], [some (.one false (.arr 7 n (rowE e)))]⟩) (fun k => k ≤ n ∧ ¬ szS l1 e.x k < 0) (fun k => n - k) 0 [(0, 0)] ⟨Nat.zero_le _, h⟩ ?_ ?_
  · simp [idTo, noW, fstNodup, cV, cE, cL, cLs, cVs, cView, cEnt, cRow, look, Row.z, Row.n, Row.at, Ent.w, Ent.m, Ent.row, lessP, rg, List.replicate_succ, szS]
  intro k ⟨hk, hn⟩
  simp only [rg, List.replicate_succ, List.replicate_zero, List.set_cons_zero, List.set_cons_succ]
  by_cases q : k < n
  · have hw : IntKind.i64.wrap ((k : Int) + 1) = ((k + 1 : Nat) : Int) := by rw [IntKind.wrap_i64]; omega
    have hs : szS l1 e.x (k + 1) = if sz1 (szS l1 e.x k) (e.x k) < 0 then -1 else sz1 (szS l1 e.x k) (e.x k) := by simp only [szS]; rw [if_neg hn]
    have hneg := fun h => szS_neg l1 e.x (i := k) h n (by omega)
    refine run_ok tok 400 _ _ ?_; simp only [↓reduceIte, run_opsNil, run_op, run_skip, run_seq, run_block, run_cond, run_exit, run_ret, run_region, dop, ev, put, told, exitT, dBin, dIndexAddr, dLen, dBuiltin, dLoad, Row.z, Row.n, Row.at, Ent.m, Ent.row, look, pureP, pureO, tab, TK.agg, List.getD_cons_zero, List.getD_cons_succ, List.set_cons_zero, List.set_cons_succ, Option.map_some, Option.join_some, List.getElem?_cons_zero, true_and, and_true, List.drop_zero, List.take_succ_cons, List.take_nil, List.map_cons, List.map_nil, Nat.reduceLeDiff, Nat.lt_add_one, true_or, Nat.zero_add, Int.toNat_natCast, Nat.reduceEqDiff]
    refine ⟨fun q0 => ?_, fun q0 => ?_⟩ <;> try simp only [decide_eq_true_eq, decide_eq_false_iff_not] at q0
    · refine ⟨⟨by omega, by omega⟩, q, ?_⟩
      have hT := t82 (e.t k) (e.k k) (e.s k) (e.c k) (e.a k) (e.o k) (e.x k) (szS l1 e.x k)
      have h1 : (if lft (szS l1 e.x k) (e.x k).size < 0 then -1 else lft (szS l1 e.x k) (e.x k).size) = sz1 (szS l1 e.x k) (e.x k) := rfl
      rw [h1] at hT
      refine D.call Try.func82 [] (hT) ?_; simp only [callP, callOk, wOk, jsOf, noW, fstNodup, allW, sig, renV, renE, renL, afterH, backH, capV, cV, cE, cL, cLs, cVs, cView, ev, Ent.w, put, List.lookup_nil, Bool.or_true, Bool.and_true, List.all_nil, List.getD_cons_zero, List.getD_cons_succ, List.set_cons_zero, List.set_cons_succ, List.length_cons, List.length_nil, List.drop_nil, List.map_cons, List.map_nil, List.append_nil, Nat.zero_add, decide_true, true_and, and_self, Int.reduceNeg]; refine run_ok tok 400 _ _ ?_; simp only [↓reduceIte, run_blk, run_back, run_opsNil, run_op, run_skip, run_seq, run_cond, run_ret, run_region, dop, ev, ofV, ofLeaf, put, told, dBin, pureP, List.getD_cons_zero, List.getD_cons_succ, List.set_cons_zero, List.set_cons_succ, Option.map_some, true_and]
      refine ⟨fun q1 => ?_, fun q1 => ?_⟩ <;> try simp only [decide_eq_true_eq, decide_eq_false_iff_not] at q1
      · have hb := hneg (by rw [hs, if_pos q1]; omega)
        refine Out.of [(0, 0)] ?_; simp (config := {contextual := true}) [outP, outOf, resL, idTo, noW, fstNodup, cV, cE, cL, cLs, cView, cEnt, cRow, look, Row.z, Row.n, Row.at, Ent.w, Ent.m, Ent.row, hb]
      · rw [if_neg q1] at hs
        refine ⟨k + 1, [(0, 0)], ⟨by omega, by rw [hs]; exact q1⟩, by omega, ?_⟩
        simp (config := {contextual := true}) [idTo, noW, fstNodup, cV, cE, cL, cLs, cVs, cView, cEnt, cRow, look, Row.z, Row.n, Row.at, Ent.w, Ent.m, Ent.row, lessP, hw, hs]
    · omega
  · obtain rfl : k = n := by omega
    refine run_ok tok 400 _ _ ?_; simp only [↓reduceIte, run_opsNil, run_op, run_skip, run_seq, run_block, run_cond, run_exit, run_ret, run_region, dop, ev, put, told, exitT, dBin, dIndexAddr, dLen, dBuiltin, dLoad, Row.z, Row.n, Row.at, Ent.m, Ent.row, look, pureP, pureO, tab, TK.agg, List.getD_cons_zero, List.getD_cons_succ, List.set_cons_zero, List.set_cons_succ, Option.map_some, Option.join_some, List.getElem?_cons_zero, true_and, and_true, List.drop_zero, List.take_succ_cons, List.take_nil, List.map_cons, List.map_nil, Nat.lt_irrefl, Nat.reduceLeDiff, Nat.lt_add_one, true_or, Nat.zero_add, Int.toNat_natCast, Nat.reduceEqDiff]
    refine ⟨fun q0 => ?_, fun q0 => ?_⟩ <;> try simp only [decide_eq_true_eq, decide_eq_false_iff_not] at q0
    · omega
    refine Out.of [(0, 0)] ?_; simp (config := {contextual := true}) [outP, outOf, resL, idTo, noW, fstNodup, cV, cE, cL, cLs, cView, cEnt, cRow, look, Row.z, Row.n, Row.at, Ent.w, Ent.m, Ent.row]
end Go.Proofs.YtnlohhgcimcmnaaE
