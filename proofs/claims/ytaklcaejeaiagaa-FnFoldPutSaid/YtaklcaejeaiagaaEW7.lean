/- A part of the proof of a law of the given program: contracts of functions. No condition of its own. -/
import Derived.Test.YtaklcaejeaiagaaEW6
import Derived.Test.YtaklcaejeaiagaaEW2
import Derived.Test.YtaklcaejeaiagaaECU20
namespace Go.Proofs.YtaklcaejeaiagaaE
open Go.Proofs
set_option maxRecDepth 100000
theorem t79 (n p : Nat) (hn : n ≤ 1048576) (g h : Nat → Int) : Tri Try.prog 79 [.sl 0 0 0 n p] [some (.one false (.arr 2 n (row2 g h)))] (.sl 1 0 0 n n) [some (.one false (.arr 2 n (row2 g h))), some (.one true (.arr 2 n (row2 g h)))] := by
  refine Tri.of tok Try.func79 rfl ?_; refine D.ghost 2 (fun _ => []) ?_; simp only [Try.ntmps79, Try.results79, List.length_cons, List.length_nil, Nat.reduceAdd, Nat.reduceSub, List.replicate_succ, List.replicate_zero, List.cons_append, List.nil_append]; refine run_ok tok 8 _ _ ?_; simp only [run_zero, run_opsNil, run_op, run_seq, run_region, dop, ev, ofV, ofLeaf, put, List.getD_cons_zero, List.set_cons_zero, List.set_cons_succ, true_and]
  refine D.opQ (by rfl) ?_
  refine OpTQ.eqlNil tok (by rfl) (by rfl) (by rfl) (fun h0 => ?_) ?_
  · subst h0
    simp only [put, List.set_cons_zero, List.set_cons_succ]
    refine run_ok tok 400 _ _ ?_; simp only [run_opsNil, run_op, run_seq, run_cond, run_ret, run_region, dop, ev, ofV, ofLeaf, put, told, ↓sel_true, List.getD_cons_zero, List.getD_cons_succ, List.set_cons_zero, List.set_cons_succ, true_and]
    refine Out.of [(0, 0), (1, 0)] ?_; simp (config := {contextual := true}) [outP, outOf, resL, idTo, noW, fstNodup, cV, cE, cL, cLs, cView, cEnt, cRow, look, Row.z, Row.n, Row.at, Ent.w, Ent.m, Ent.row]
  · simp only [put, List.set_cons_zero, List.set_cons_succ]
    refine run_ok tok 400 _ _ ?_; simp only [↓reduceIte, capJ_zero, run_opsNil, run_op, run_skip, run_seq, run_cond, run_ret, run_region, dop, ev, ofV, ofLeaf, put, told, dBuildSlice, dElems, newRow1, DV.leaf, Row.z, Row.n, Row.at, Ent.w, Ent.m, Ent.row, look, newP, ↓sel_false, tab, List.getD_cons_zero, List.getD_cons_succ, List.set_cons_zero, List.set_cons_succ, Option.map_some, Option.join_some, List.getElem?_cons_zero, List.getElem?_cons_succ, true_and, and_true, List.length_cons, List.length_nil, Nat.reduceAdd, List.cons_append, List.nil_append, List.map_cons, List.map_nil, List.all_cons, List.all_nil, Bool.and_self, Nat.zero_lt_succ, Nat.lt_add_one, Nat.add_zero, Nat.zero_add, List.replicate_zero, dAppend, part, srcP, ownB, killX, Nat.zero_mul, Nat.zero_le]
    refine ⟨⟨by omega, fun q hq => by simp, by omega, by omega⟩, ?_⟩
    refine Out.of [(0, 0), (3, 0)] ?_; simp (config := {contextual := true}) [outP, outOf, resL, idTo, noW, fstNodup, cV, cE, cL, cLs, cView, cEnt, cRow, look, Row.z, Row.n, Row.at, Ent.w, Ent.m, Ent.row, joined_zero]
theorem t81 (key val x y : Int) (bb : Bool) (hbb : bb = true ↔ ¬ x ≠ key) : Tri Try.prog 81 [.agg [.i64 x, .i64 y], .ptr 0 0 0 0] [some (.one false (.lst 2 [[.i64 key, .i64 val]]))] (.bool bb) [some (.one false (.lst 2 [[.i64 key, .i64 val]]))] := by
  have hb : bb = decide (x = key) := by
    by_cases h : x = key
    · rw [hbb.2 (fun hh => hh h)]; simp [h]
    · cases bb
      · simp [h]
      · exact absurd h (hbb.1 rfl)
  subst hb
  refine Tri.of tok Try.func81 rfl ?_; simp only [Try.ntmps81, Try.results81, List.length_cons, List.length_nil, Nat.reduceAdd, Nat.reduceSub, List.replicate_succ, List.replicate_zero, List.cons_append, List.nil_append]; refine run_ok tok 400 _ _ ?_; simp only [↓reduceIte, run_opsNil, run_op, run_seq, run_ret, run_region, dop, ev, ofV, ofLeaf, put, dBin, dFieldAddr, dBox, dLoad, newRow1, cellsOf, DV.leaf, Row.z, Row.n, Row.at, Ent.m, Ent.row, look, pureP, pureO, newP, tab, TK.agg, List.getD_cons_zero, List.getD_cons_succ, List.set_cons_zero, List.set_cons_succ, Option.map_some, Option.join_some, List.getElem?_cons_zero, List.getElem?_cons_succ, Bool.false_eq_true, true_and, and_true, List.length_cons, List.length_nil, Nat.reduceAdd, List.cons_append, List.nil_append, List.drop_zero, List.take_zero, List.take_succ_cons, List.headD_cons, List.all_cons, List.all_nil, Bool.and_self, Nat.reduceLeDiff, Nat.lt_add_one, or_true, Nat.add_zero, Nat.zero_add, reduceCtorEq]
  refine Out.of [(0, 0)] ?_; simp (config := {contextual := true}) [outP, outOf, resL, idTo, noW, fstNodup, cV, cE, cL, cLs, cView, cEnt, cRow, cEls, look, Row.z, Row.n, Row.at, Ent.w, Ent.m, Ent.row]
theorem t85 (x y : Int) (bb : Bool) (hbb : bb = true ↔ ¬ y ≠ 0) : Tri Try.prog 85 [.agg [.i64 x, .i64 y]] [] (.bool bb) [] := by
  have hb : bb = decide (y = 0) := by
    by_cases h : y = 0
    · rw [hbb.2 (fun hh => hh h)]; simp [h]
    · cases bb
      · simp [h]
      · exact absurd h (hbb.1 rfl)
  subst hb
  refine Tri.of tok Try.func85 rfl ?_; simp only [Try.ntmps85, Try.results85, List.length_cons, List.length_nil, Nat.reduceAdd, Nat.reduceSub, List.replicate_succ, List.replicate_zero, List.cons_append, List.nil_append]; refine run_ok tok 400 _ _ ?_; simp only [↓reduceIte, run_opsNil, run_op, run_seq, run_ret, run_region, dop, ev, ofV, ofLeaf, put, dBin, dFieldAddr, dBox, dLoad, newRow1, cellsOf, DV.leaf, Row.z, Row.n, Row.at, Ent.m, Ent.row, look, pureP, pureO, newP, tab, TK.agg, List.getD_cons_zero, List.getD_cons_succ, List.set_cons_zero, List.set_cons_succ, Option.map_some, Option.join_some, List.getElem?_cons_zero, List.getElem?_cons_succ, Bool.false_eq_true, true_and, and_true, List.length_cons, List.length_nil, Nat.reduceAdd, List.nil_append, List.drop_zero, List.drop_succ_cons, List.take_succ_cons, List.take_nil, List.headD_cons, List.all_cons, List.all_nil, Bool.and_self, Nat.reduceLeDiff, Nat.lt_add_one, or_true, Nat.zero_add, reduceCtorEq]
  refine Out.of [] ?_; simp (config := {contextual := true}) [outP, outOf, resL, idTo, noW, fstNodup, cV, cE, cL, cView, Ent.w]
theorem t126x (n p : Nat) (hn : n ≤ 1048576) (key val : Int) (a b : Nat → Int) (r : Int) (hr : (r = -1 ∧ ∀ i, i < n → a i ≠ key) ∨ ∃ i : Nat, i < n ∧ r = i ∧ ¬ (a i ≠ key) ∧ ∀ j, j < i → a j ≠ key) : Tri Try.prog 126 [.sl 0 0 0 n p, .fn 81 [1]] [some (.one false (.arr 2 n (row2 a b))), some (.one false (.lst 2 [[.i64 key, .i64 val]]))] (.i64 r) [some (.one false (.arr 2 n (row2 a b))), some (.one false (.lst 2 [[.i64 key, .i64 val]]))] := by
  refine Tri.of tok Try.func126 rfl ?_; simp only [Try.ntmps126, Try.results126, List.length_cons, List.length_nil, Nat.reduceAdd, Nat.reduceSub, List.replicate_succ, List.replicate_zero, List.cons_append, List.nil_append]; refine run_ok tok 400 _ _ ?_; simp only [run_opsNil, run_op, run_seq, run_block, run_region, run_loop, dop, ev, ofV, ofLeaf, put, dLen, dBuiltin, pureO, tab, List.getD_cons_zero, List.getD_cons_succ, List.set_cons_zero, List.set_cons_succ, Option.map_some, true_and, List.map_cons, List.map_nil]
  refine D.loopI (fun k : Nat => ⟨rg 19 [(0, .sl 0 0 0 n p), (1, .fn 81 [1]), (7, .i64 n), (8, .i64 k)], [some (.one false (.arr 2 n (row2 a b))), some (.one false (.lst 2 [[.i64 key, .i64 val]]))]⟩) (fun k => k ≤ n ∧ ∀ j, j < k → a j ≠ key) (fun k => n - k) 0 [(0, 0), (1, 0)] ⟨Nat.zero_le _, fun j hj => by omega⟩ ?_ ?_
  · simp (config := {contextual := true}) [idTo, noW, fstNodup, cV, cE, cL, cLs, cVs, cView, cEnt, cRow, cEls, look, Row.z, Row.n, Row.at, Ent.w, Ent.m, Ent.row, lessP, rg, List.replicate_succ]
  · intro k ⟨hk, hg⟩
    simp only [rg, List.replicate_succ, List.replicate_zero, List.set_cons_zero, List.set_cons_succ]
    refine run_ok tok 400 _ _ ?_; simp only [↓reduceIte, run_opsNil, run_op, run_skip, run_seq, run_block, run_cond, run_exit, run_ret, run_region, dop, ev, ofV, ofLeaf, put, told, exitT, dBin, dIndexAddr, dLoad, Row.z, Row.n, Row.at, Ent.m, Ent.row, look, pureP, tab, TK.agg, List.getD_cons_zero, List.getD_cons_succ, List.set_cons_zero, List.set_cons_succ, Option.map_some, Option.join_some, List.getElem?_cons_zero, true_and, and_true, List.drop_zero, List.take_succ_cons, List.take_nil, Nat.reduceLeDiff, Nat.lt_add_one, true_or, Nat.zero_add, Int.toNat_natCast, Nat.reduceEqDiff]
    refine ⟨fun h => ?_, fun h => ?_⟩ <;> try simp only [decide_eq_true_eq, decide_eq_false_iff_not] at h
    · refine ⟨⟨by omega, by omega⟩, by omega, ?_⟩
      have hkn : k < n := by omega
      obtain ⟨bk, hbk⟩ := bool_of (¬ (a k ≠ key))
      refine D.call Try.func81 [(1, 0)] (t81 key val (a k) (b k) bk hbk) ?_; simp only [↓reduceIte, callP, callOk, wOk, jsOf, noW, fstNodup, allW, sig, renV, renE, renL, afterH, backH, capV, cV, cE, cL, cLs, cVs, cView, cEnt, cRow, cEls, ev, look, Row.z, Row.n, Row.at, Ent.w, Ent.m, Ent.row, put, List.lookup_nil, Bool.or_true, Bool.or_false, Bool.and_true, Bool.and_false, Bool.not_false, beq_self_eq_true, List.any_nil, List.all_cons, List.all_nil, List.getD_cons_zero, List.getD_cons_succ, List.set_cons_zero, List.set_cons_succ, List.getElem?_cons_zero, List.getElem?_cons_succ, List.length_cons, List.length_nil, List.drop_succ_cons, List.drop_nil, List.map_cons, List.map_nil, List.cons_append, List.nil_append, List.append_nil, Option.join_some, Nat.reduceAdd, Nat.lt_add_one, Nat.add_zero, Nat.zero_add, decide_true, true_and, and_true, and_self, imp_self, Bool.false_eq_true, Int.reduceNeg]; refine run_ok tok 400 _ _ ?_; simp only [↓reduceIte, run_blk, run_back, run_opsNil, run_op, run_skip, run_seq, run_cond, run_ret, run_region, dop, ev, ofV, ofLeaf, put, told, dBin, pureP, List.getD_cons_zero, List.getD_cons_succ, List.set_cons_zero, List.set_cons_succ, Option.map_some, true_and]
      refine ⟨fun h4 => ?_, fun h4 => ?_⟩ <;> try simp only [Bool.not_eq_true', Bool.not_eq_false', decide_eq_true_eq, decide_eq_false_iff_not, Decidable.not_not, ne_eq, Bool.not_eq_true, Bool.not_eq_false] at h4
      · have h4 := hbk.1 h4
        have h5 : r = k := by
          rcases hr with ⟨_, h6⟩ | ⟨i, h6, h7, h8, h9⟩
          · exact absurd (h6 k (by omega)) h4
          · rcases Nat.lt_trichotomy i k with h | h | h
            · exact absurd (hg i h) h8
            · omega
            · exact absurd (h9 k h) h4
        refine Out.of [(0, 0), (1, 0)] ?_; simp (config := {contextual := true}) [outP, outOf, resL, idTo, noW, fstNodup, cV, cE, cL, cLs, cView, cEnt, cRow, cEls, look, Row.z, Row.n, Row.at, Ent.w, Ent.m, Ent.row, h5]
      · have h4 : a k ≠ key := Classical.byContradiction fun hx => by rw [hbk.2 hx] at h4; cases h4
        have hw : IntKind.i64.wrap ((k : Int) + 1) = ((k + 1 : Nat) : Int) := by rw [IntKind.wrap_i64]; omega
        refine ⟨k + 1, [(0, 0), (1, 0)], ⟨by omega, fun j hj => ?_⟩, by omega, ?_⟩
        · by_cases hjk : j = k
          · subst hjk; exact h4
          · exact hg j (by omega)
        · simp (config := {contextual := true}) [idTo, noW, fstNodup, cV, cE, cL, cLs, cVs, cView, cEnt, cRow, cEls, look, Row.z, Row.n, Row.at, Ent.w, Ent.m, Ent.row, lessP, hw]
    · obtain rfl : k = n := by omega
      have h5 : r = -1 := by
        rcases hr with ⟨h6, _⟩ | ⟨i, h6, h7, h8, h9⟩
        · exact h6
        · exact absurd (hg i h6) h8
      refine Out.of [(0, 0), (1, 0)] ?_; simp (config := {contextual := true}) [outP, outOf, resL, idTo, noW, fstNodup, cV, cE, cL, cLs, cView, cEnt, cRow, cEls, look, Row.z, Row.n, Row.at, Ent.w, Ent.m, Ent.row, h5]
theorem t80x (n p : Nat) (hn : n ≤ 1048576) (key val : Int) (a b : Nat → Int) (bb : Bool) (hbb : bb = true ↔ ¬ ∀ i, i < n → a i ≠ key) : Tri Try.prog 80 [.sl 0 0 0 n p, .fn 81 [1]] [some (.one false (.arr 2 n (row2 a b))), some (.one false (.lst 2 [[.i64 key, .i64 val]]))] (.bool bb) [some (.one false (.arr 2 n (row2 a b))), some (.one false (.lst 2 [[.i64 key, .i64 val]]))] := by
  obtain ⟨r, hr⟩ := find_ex (fun i => a i ≠ key) n
  have h1 : decide (0 ≤ r) = bb := by
    rcases hr with ⟨h2, h3⟩ | ⟨i, h2, h3, h4, h5⟩
    · rw [no_of hbb (fun hh => hh h3)]; simp only [decide_eq_false_iff_not]; omega
    · rw [yes_of hbb (fun hh => h4 (hh i h2))]; simp only [decide_eq_true_eq]; omega
  refine Tri.of tok Try.func80 rfl ?_; simp only [Try.ntmps80, Try.results80, List.length_cons, List.length_nil, Nat.reduceAdd, Nat.reduceSub, List.replicate_succ, List.replicate_zero, List.cons_append, List.nil_append]; refine run_ok tok 400 _ _ ?_; simp only [run_opsNil, run_op, run_seq, run_region, dop, ev, ofV, ofLeaf, put, List.getD_cons_zero, List.getD_cons_succ, List.set_cons_zero, List.set_cons_succ, true_and]
  refine D.call Try.func126 [(0, 0), (1, 0)] (t126x n p hn key val a b r hr) ?_; simp only [↓reduceIte, callP, callOk, wOk, jsOf, noW, fstNodup, allW, sig, renV, renE, renL, afterH, backH, capV, cV, cE, cL, cLs, cVs, cView, cEnt, cRow, cEls, ev, look, Row.z, Row.n, Row.at, Ent.w, Ent.m, Ent.row, put, List.lookup_nil, Bool.or_true, Bool.or_false, Bool.and_true, Bool.and_false, Bool.not_false, beq_self_eq_true, List.any_cons, List.any_nil, List.all_cons, List.all_nil, List.getD_cons_zero, List.getD_cons_succ, List.set_cons_zero, List.set_cons_succ, List.getElem?_cons_zero, List.getElem?_cons_succ, List.length_cons, List.length_nil, List.drop_succ_cons, List.drop_nil, List.map_cons, List.map_nil, List.append_nil, Option.join_some, Nat.reduceAdd, Nat.reduceBEq, Nat.lt_add_one, Nat.zero_lt_succ, Nat.add_zero, Nat.zero_add, Nat.le_refl, decide_true, true_and, and_true, and_self, implies_true, imp_self, Bool.false_eq_true]; refine run_ok tok 400 _ _ ?_; simp only [↓reduceIte, run_opsNil, run_op, run_ret, dop, ev, ofV, ofLeaf, put, dBin, pureP, List.getD_cons_zero, List.getD_cons_succ, List.set_cons_zero, List.set_cons_succ, Option.map_some, true_and]
  refine Out.of [(0, 0), (1, 0)] ?_; simp (config := {contextual := true}) [outP, outOf, resL, idTo, noW, fstNodup, cV, cE, cL, cLs, cView, cEnt, cRow, cEls, look, Row.z, Row.n, Row.at, Ent.w, Ent.m, Ent.row, h1]
theorem t126d (n p : Nat) (hn : n ≤ 1048576) (a b : Nat → Int) (r : Int) (hr : (r = -1 ∧ ∀ i, i < n → b i ≠ 0) ∨ ∃ i : Nat, i < n ∧ r = i ∧ ¬ (b i ≠ 0) ∧ ∀ j, j < i → b j ≠ 0) : Tri Try.prog 126 [.sl 0 0 0 n p, .fn 85 []] [some (.one false (.arr 2 n (row2 a b)))] (.i64 r) [some (.one false (.arr 2 n (row2 a b)))] := by
  refine Tri.of tok Try.func126 rfl ?_; simp only [Try.ntmps126, Try.results126, List.length_cons, List.length_nil, Nat.reduceAdd, Nat.reduceSub, List.replicate_succ, List.replicate_zero, List.cons_append, List.nil_append]; refine run_ok tok 400 _ _ ?_; simp only [run_opsNil, run_op, run_seq, run_block, run_region, run_loop, dop, ev, ofV, ofLeaf, put, dLen, dBuiltin, pureO, tab, List.getD_cons_zero, List.getD_cons_succ, List.set_cons_zero, List.set_cons_succ, Option.map_some, true_and, List.map_cons, List.map_nil]
  refine D.loopI (fun k : Nat => ⟨rg 19 [(0, .sl 0 0 0 n p), (1, .fn 85 []), (7, .i64 n), (8, .i64 k)], [some (.one false (.arr 2 n (row2 a b)))]⟩) (fun k => k ≤ n ∧ ∀ j, j < k → b j ≠ 0) (fun k => n - k) 0 [(0, 0)] ⟨Nat.zero_le _, fun j hj => by omega⟩ ?_ ?_
  · simp (config := {contextual := true}) [idTo, noW, fstNodup, cV, cE, cL, cLs, cVs, cView, cEnt, cRow, look, Row.z, Row.n, Row.at, Ent.w, Ent.m, Ent.row, lessP, rg, List.replicate_succ]
  · intro k ⟨hk, hg⟩
    simp only [rg, List.replicate_succ, List.replicate_zero, List.set_cons_zero, List.set_cons_succ]
    refine run_ok tok 400 _ _ ?_; simp only [↓reduceIte, run_opsNil, run_op, run_skip, run_seq, run_block, run_cond, run_exit, run_ret, run_region, dop, ev, ofV, ofLeaf, put, told, exitT, dBin, dIndexAddr, dLoad, Row.z, Row.n, Row.at, Ent.m, Ent.row, look, pureP, tab, TK.agg, List.getD_cons_zero, List.getD_cons_succ, List.set_cons_zero, List.set_cons_succ, Option.map_some, Option.join_some, List.getElem?_cons_zero, true_and, and_true, List.drop_zero, List.take_succ_cons, List.take_nil, Nat.reduceLeDiff, Nat.lt_add_one, true_or, Nat.zero_add, Int.toNat_natCast, Nat.reduceEqDiff]
    refine ⟨fun h => ?_, fun h => ?_⟩ <;> try simp only [decide_eq_true_eq, decide_eq_false_iff_not] at h
    · refine ⟨⟨by omega, by omega⟩, by omega, ?_⟩
      have hkn : k < n := by omega
      obtain ⟨bk, hbk⟩ := bool_of (¬ (b k ≠ 0))
      refine D.call Try.func85 [] (t85 (a k) (b k) bk hbk) ?_; simp only [callP, callOk, wOk, jsOf, noW, fstNodup, allW, sig, renV, renE, renL, afterH, backH, capV, cV, cE, cL, cLs, cVs, cView, ev, Ent.w, put, List.lookup_nil, Bool.or_true, Bool.and_true, List.all_nil, List.getD_cons_zero, List.getD_cons_succ, List.set_cons_zero, List.set_cons_succ, List.length_cons, List.length_nil, List.drop_nil, List.map_cons, List.map_nil, List.append_nil, Nat.zero_add, decide_true, true_and, and_self, Int.reduceNeg]; refine run_ok tok 400 _ _ ?_; simp only [↓reduceIte, run_blk, run_back, run_opsNil, run_op, run_skip, run_seq, run_cond, run_ret, run_region, dop, ev, ofV, ofLeaf, put, told, dBin, pureP, List.getD_cons_zero, List.getD_cons_succ, List.set_cons_zero, List.set_cons_succ, Option.map_some, true_and]
      refine ⟨fun h4 => ?_, fun h4 => ?_⟩ <;> try simp only [Bool.not_eq_true', Bool.not_eq_false', decide_eq_true_eq, decide_eq_false_iff_not, Decidable.not_not, ne_eq, Bool.not_eq_true, Bool.not_eq_false] at h4
      · have h4 := hbk.1 h4
        have h5 : r = k := by
          rcases hr with ⟨_, h6⟩ | ⟨i, h6, h7, h8, h9⟩
          · exact absurd (h6 k (by omega)) h4
          · rcases Nat.lt_trichotomy i k with h | h | h
            · exact absurd (hg i h) h8
            · omega
            · exact absurd (h9 k h) h4
        refine Out.of [(0, 0)] ?_; simp (config := {contextual := true}) [outP, outOf, resL, idTo, noW, fstNodup, cV, cE, cL, cLs, cView, cEnt, cRow, look, Row.z, Row.n, Row.at, Ent.w, Ent.m, Ent.row, h5]
      · have h4 : b k ≠ 0 := Classical.byContradiction fun hx => by rw [hbk.2 hx] at h4; cases h4
        have hw : IntKind.i64.wrap ((k : Int) + 1) = ((k + 1 : Nat) : Int) := by rw [IntKind.wrap_i64]; omega
        refine ⟨k + 1, [(0, 0)], ⟨by omega, fun j hj => ?_⟩, by omega, ?_⟩
        · by_cases hjk : j = k
          · subst hjk; exact h4
          · exact hg j (by omega)
        · simp (config := {contextual := true}) [idTo, noW, fstNodup, cV, cE, cL, cLs, cVs, cView, cEnt, cRow, look, Row.z, Row.n, Row.at, Ent.w, Ent.m, Ent.row, lessP, hw]
    · obtain rfl : k = n := by omega
      have h5 : r = -1 := by
        rcases hr with ⟨h6, _⟩ | ⟨i, h6, h7, h8, h9⟩
        · exact h6
        · exact absurd (hg i h6) h8
      refine Out.of [(0, 0)] ?_; simp (config := {contextual := true}) [outP, outOf, resL, idTo, noW, fstNodup, cV, cE, cL, cLs, cView, cEnt, cRow, look, Row.z, Row.n, Row.at, Ent.w, Ent.m, Ent.row, h5]
theorem t80d (n p : Nat) (hn : n ≤ 1048576) (a b : Nat → Int) (bb : Bool) (hbb : bb = true ↔ ¬ ∀ i, i < n → b i ≠ 0) : Tri Try.prog 80 [.sl 0 0 0 n p, .fn 85 []] [some (.one false (.arr 2 n (row2 a b)))] (.bool bb) [some (.one false (.arr 2 n (row2 a b)))] := by
  obtain ⟨r, hr⟩ := find_ex (fun i => b i ≠ 0) n
  have h1 : decide (0 ≤ r) = bb := by
    rcases hr with ⟨h2, h3⟩ | ⟨i, h2, h3, h4, h5⟩
    · rw [no_of hbb (fun hh => hh h3)]; simp only [decide_eq_false_iff_not]; omega
    · rw [yes_of hbb (fun hh => h4 (hh i h2))]; simp only [decide_eq_true_eq]; omega
  refine Tri.of tok Try.func80 rfl ?_; simp only [Try.ntmps80, Try.results80, List.length_cons, List.length_nil, Nat.reduceAdd, Nat.reduceSub, List.replicate_succ, List.replicate_zero, List.cons_append, List.nil_append]; refine run_ok tok 400 _ _ ?_; simp only [run_opsNil, run_op, run_seq, run_region, dop, ev, ofV, ofLeaf, put, List.getD_cons_zero, List.getD_cons_succ, List.set_cons_zero, List.set_cons_succ, true_and]
  refine D.call Try.func126 [(0, 0)] (t126d n p hn a b r hr) ?_; simp only [↓reduceIte, callP, callOk, wOk, jsOf, noW, fstNodup, allW, sig, renV, renE, renL, afterH, backH, capV, cV, cE, cL, cLs, cVs, cView, cEnt, cRow, ev, look, Row.z, Row.n, Row.at, Ent.w, Ent.m, Ent.row, put, List.lookup_nil, Bool.or_true, Bool.or_false, Bool.and_true, Bool.and_false, Bool.not_false, beq_self_eq_true, List.any_nil, List.all_cons, List.all_nil, List.getD_cons_zero, List.getD_cons_succ, List.set_cons_zero, List.set_cons_succ, List.getElem?_cons_zero, List.length_cons, List.length_nil, List.drop_succ_cons, List.drop_nil, List.map_cons, List.map_nil, List.append_nil, Option.join_some, Nat.lt_add_one, Nat.add_zero, Nat.zero_add, Nat.le_refl, decide_true, true_and, and_true, and_self, implies_true, imp_self, Bool.false_eq_true]; refine run_ok tok 400 _ _ ?_; simp only [↓reduceIte, run_opsNil, run_op, run_ret, dop, ev, ofV, ofLeaf, put, dBin, pureP, List.getD_cons_zero, List.getD_cons_succ, List.set_cons_zero, List.set_cons_succ, Option.map_some, true_and]
  refine Out.of [(0, 0)] ?_; simp (config := {contextual := true}) [outP, outOf, resL, idTo, noW, fstNodup, cV, cE, cL, cLs, cView, cEnt, cRow, look, Row.z, Row.n, Row.at, Ent.w, Ent.m, Ent.row, h1]
/-! ### what is left of a list without the pairs at nought -/
def delT (l : List (Int × Int)) : Nat → List (Int × Int)
  | 0 => []
  | i + 1 => if ph l i ≠ 0 then delT l i ++ [(pg l i, ph l i)] else delT l i
def delL (l : List (Int × Int)) : List (Int × Int) := delT l l.length
theorem delT_len (l : List (Int × Int)) : ∀ i, (delT l i).length ≤ i
  | 0 => by simp [delT]
  | i + 1 => by have := delT_len l i; simp only [delT]; split <;> simp <;> omega
theorem delT_take {l : List (Int × Int)} : ∀ {k : Nat}, k ≤ l.length → (∀ j, j < k → ph l j ≠ 0) → delT l k = l.take k
  | 0, _, _ => by simp [delT]
  | k + 1, hk, h => by
    have ih := delT_take (l := l) (k := k) (by omega) fun j h1 => h j (by omega)
    simp only [delT]
    rw [if_pos (h k (by omega)), ih]
    simp [pg, ph, List.getD_eq_getElem?_getD, (by omega : k < l.length)]
    exact (List.take_succ_eq_append_getElem (by omega)).symm
theorem pg_take {l : List (Int × Int)} {k j : Nat} (h : j < k) : pg (l.take k) j = pg l j ∧ ph (l.take k) j = ph l j := by
  simp [pg, ph, List.getD_eq_getElem?_getD, h]
theorem pg_app {l m : List (Int × Int)} {j : Nat} (h : j < l.length) : pg (l ++ m) j = pg l j ∧ ph (l ++ m) j = ph l j := by
  simp [pg, ph, List.getD_eq_getElem?_getD, List.getElem?_append, h]
theorem pg_snoc {l : List (Int × Int)} (a b : Int) : pg (l ++ [(a, b)]) l.length = a ∧ ph (l ++ [(a, b)]) l.length = b := by
  simp [pg, ph, List.getD_eq_getElem?_getD]
set_option maxHeartbeats 8000000 in
theorem t84 (l : List (Int × Int)) (hl : l.length ≤ 1048576) (p : Nat) : Tri Try.prog 84 [.sl 0 0 0 l.length p, .fn 85 []] [arrP l] (.sl 0 0 0 (delL l).length 0) [arrP (delL l)] := by
  have hE : arrP l = some (.one true (.arr 2 l.length (row2 (pg l) (ph l)))) := rfl
  obtain ⟨n, hn⟩ : ∃ n, n = l.length := ⟨_, rfl⟩
  have hdl : delL l = delT l n := by rw [hn]; rfl
  have hfull : (∀ j, j < n → ph l j ≠ 0) → delL l = l := fun h => by
    have := delT_take (l := l) (k := n) (by omega) h
    rw [hn] at this
    simpa [delL] using this
  rw [hE, ← hn]
  rw [← hn] at hl
  clear hE
  obtain ⟨r, hr⟩ := find_ex (fun i => ph l i ≠ 0) n
  refine Tri.of tok Try.func84 rfl ?_; simp only [Try.ntmps84, Try.results84, List.length_cons, List.length_nil, Nat.reduceAdd, Nat.reduceSub, List.replicate_succ, List.replicate_zero, List.cons_append, List.nil_append]; refine run_ok tok 400 _ _ ?_; simp only [run_opsNil, run_op, run_seq, run_region, dop, ev, ofV, ofLeaf, put, List.getD_cons_zero, List.getD_cons_succ, List.set_cons_zero, List.set_cons_succ, true_and]
  refine D.call Try.func126 [(0, 0)] (t126d n p hl (pg l) (ph l) r hr) ?_; simp only [↓reduceIte, callP, callOk, wOk, jsOf, noW, fstNodup, allW, sig, renV, renE, renL, afterH, backH, capV, cV, cE, cL, cLs, cVs, cView, cEnt, cRow, ev, look, Row.z, Row.n, Row.at, Ent.w, Ent.m, Ent.row, put, List.lookup_nil, Bool.or_true, Bool.or_false, Bool.and_true, Bool.and_false, Bool.not_false, beq_self_eq_true, List.any_nil, List.all_cons, List.all_nil, List.getD_cons_zero, List.getD_cons_succ, List.set_cons_zero, List.set_cons_succ, List.getElem?_cons_zero, List.length_cons, List.length_nil, List.drop_succ_cons, List.drop_nil, List.map_cons, List.map_nil, List.append_nil, Option.join_some, Nat.lt_add_one, Nat.add_zero, Nat.zero_add, Nat.le_refl, decide_true, true_and, and_true, and_self, implies_true, imp_self, Bool.false_eq_true, Int.reduceNeg]; refine run_ok tok 400 _ _ ?_; simp only [↓reduceIte, run_opsNil, run_op, run_skip, run_seq, run_block, run_cond, run_ret, run_region, run_loop, dop, ev, ofV, ofLeaf, put, told, dBin, pureP, List.getD_cons_zero, List.getD_cons_succ, List.set_cons_zero, List.set_cons_succ, Option.map_some, true_and]
  refine ⟨fun q0 => ?_, fun q0 => ?_⟩ <;> try simp only [decide_eq_true_eq, decide_eq_false_iff_not] at q0
  · rcases hr with ⟨_, h1⟩ | ⟨i, h1, h2, h3, h4⟩
    · have hc := hfull h1
      rw [hc]
      refine Out.of [(0, 0)] ?_; simp (config := {contextual := true}) [outP, outOf, resL, idTo, noW, fstNodup, cV, cE, cL, cLs, cView, cEnt, cRow, look, Row.z, Row.n, Row.at, Ent.w, Ent.m, Ent.row, hn]
    · omega
  obtain ⟨k, hkn, rfl, hk0, hkt⟩ : ∃ k : Nat, k < n ∧ r = k ∧ ¬ ph l k ≠ 0 ∧ ∀ j, j < k → ph l j ≠ 0 := by
    rcases hr with ⟨h1, _⟩ | h
    · exact absurd h1 q0
    · exact h
  have hw0 : IntKind.i64.wrap ((k : Int) + 1) = ((k + 1 : Nat) : Int) := by rw [IntKind.wrap_i64]; omega
  have hd1 : delT l (k + 1) = delT l k := if_neg hk0
  have hd0 := delT_take (l := l) (k := k) (by omega) hkt
  have hdk : (delT l k).length = k := by rw [hd0, List.length_take]; omega
  refine run_ok tok 400 _ _ ?_; simp only [run_loop]
  refine D.loopI (ι := Nat × (Nat → Int) × (Nat → Int)) (fun s => ⟨rg 42 [(0, .sl 0 0 0 n p), (1, .fn 85 []), (5, .i64 (delT l s.1).length), (6, .i64 s.1)], [some (.one true (.arr 2 n (row2 s.2.1 s.2.2)))]⟩)
    (fun s => 1 ≤ s.1 ∧ s.1 ≤ n ∧ (∀ j, j < (delT l s.1).length → s.2.1 j = pg (delT l s.1) j ∧ s.2.2 j = ph (delT l s.1) j) ∧ (delT l s.1).length + 1 ≤ s.1 ∧ ∀ j, s.1 ≤ j → j < n → s.2.1 j = pg l j ∧ s.2.2 j = ph l j) (fun s => n - s.1) (k + 1, pg l, ph l) [(0, 0)] ?_ ?_ ?_
  · refine ⟨by simp only; omega, by simp only; omega, fun j hj => ?_, by simp only [hd1, hdk]; omega, fun j h1 h2 => ⟨rfl, rfl⟩⟩
    simp only [hd1, hdk] at hj ⊢
    rw [hd0]
    exact ⟨(pg_take hj).1.symm, (pg_take hj).2.symm⟩
  · simp (config := {contextual := true}) [idTo, noW, fstNodup, cV, cE, cL, cLs, cVs, cView, cEnt, cRow, look, Row.z, Row.n, Row.at, Ent.w, Ent.m, Ent.row, lessP, rg, List.replicate_succ, hd1, hdk, hw0]
  rintro ⟨i, u, v⟩ ⟨i0, i1, i2, i3, i4⟩
  simp only at i0 i1 i2 i3 i4
  simp only [rg, List.replicate_succ, List.replicate_zero, List.set_cons_zero, List.set_cons_succ]
  refine run_ok tok 400 _ _ ?_; simp only [↓reduceIte, run_opsNil, run_op, run_skip, run_seq, run_block, run_cond, run_exit, run_region, dop, ev, put, told, exitT, dBin, dIndexAddr, dSlice, dSliceL, dLen, dBuiltin, dAlloc, dLoad, dStore, newRow1, optMap, splice, cellsOf, DV.leaf, Row.z, Row.n, Row.at, Row.upd, Ent.w, Ent.m, Ent.row, Ent.upd, look, pureP, pureO, newP, tab, TK.agg, List.getD_cons_zero, List.getD_cons_succ, List.set_cons_zero, List.set_cons_succ, Option.map_some, Option.map_none, Option.join_some, List.getElem?_cons_zero, List.getElem?_cons_succ, true_and, and_true, List.length_cons, List.length_nil, Nat.reduceAdd, List.cons_append, List.nil_append, List.append_nil, List.drop_zero, List.drop_succ_cons, List.drop_nil, List.take_zero, List.take_succ_cons, List.take_nil, List.map_cons, List.map_nil, List.all_cons, List.all_nil, Bool.and_self, Nat.reduceLeDiff, Nat.zero_lt_succ, Nat.lt_add_one, true_or, Nat.zero_add, Int.toNat_natCast, Nat.reduceEqDiff]
  refine ⟨fun r1 => ?_, fun r1 => ?_⟩ <;> try simp only [decide_eq_true_eq, decide_eq_false_iff_not] at r1
  · have hin : i < n := by omega
    have hw2 : IntKind.i64.wrap ((i : Int) + 1) = ((i + 1 : Nat) : Int) := by rw [IntKind.wrap_i64]; omega
    obtain ⟨e1, e2⟩ := i4 i (Nat.le_refl _) hin
    have hs : delT l (i + 1) = if ph l i ≠ 0 then delT l i ++ [(pg l i, ph l i)] else delT l i := rfl
    generalize hO : delT l i = o at *
    have hw4 : IntKind.i64.wrap ((o.length : Int) + 1) = ((o.length + 1 : Nat) : Int) := by rw [IntKind.wrap_i64]; omega
    obtain ⟨bk, hbk⟩ := bool_of (¬ v i ≠ 0)
    refine ⟨⟨by omega, by omega⟩, hin, ?_⟩
    refine D.call Try.func85 [] (t85 (u i) (v i) bk hbk) ?_; simp only [callP, callOk, wOk, jsOf, noW, fstNodup, allW, sig, renV, renE, renL, afterH, backH, capV, cV, cE, cL, cLs, cVs, cView, ev, Ent.w, put, List.lookup_nil, Bool.or_true, Bool.and_true, List.all_nil, List.getD_cons_zero, List.getD_cons_succ, List.set_cons_zero, List.set_cons_succ, List.length_cons, List.length_nil, List.drop_nil, List.map_cons, List.map_nil, List.append_nil, Nat.reduceAdd, Nat.zero_add, decide_true, true_and, and_self]; refine run_ok tok 400 _ _ ?_; simp only [↓reduceIte, run_blk, run_back, run_opsNil, run_op, run_skip, run_seq, run_cond, run_region, dop, ev, ofV, ofLeaf, put, told, dBin, dUn, dIndexAddr, dLoad, dStore, splice, cellsOf, DV.leaf, Row.z, Row.n, Row.at, Row.upd, Ent.w, Ent.m, Ent.row, Ent.upd, look, pureP, pureO, tab, TK.agg, List.getD_cons_zero, List.getD_cons_succ, List.set_cons_zero, List.set_cons_succ, Option.map_some, Option.join_some, List.getElem?_cons_zero, List.getElem?_cons_succ, true_and, and_true, List.length_cons, List.length_nil, Nat.reduceAdd, List.nil_append, List.append_nil, List.drop_zero, List.drop_succ_cons, List.drop_nil, List.take_zero, List.take_succ_cons, List.take_nil, List.all_cons, List.all_nil, Bool.and_self, Nat.reduceLeDiff, Nat.zero_lt_succ, Nat.lt_add_one, true_or, Nat.zero_add, Int.toNat_natCast, Nat.reduceEqDiff]
    cases bk
    · have hv : ph l i ≠ 0 := by rw [← e2]; exact Classical.byContradiction fun hh => by have := hbk.2 hh; cases this
      rw [if_pos hv] at hs
      simp only [sel_true, Bool.not_false]
      refine ⟨⟨by omega, by omega⟩, by omega, ?_⟩
      refine ⟨(i + 1, fun j => if j = o.length then pg l i else u j, fun j => if j = o.length then ph l i else v j), [(0, 0)], ?_, by simp only; omega, ?_⟩
      · simp only [hs, List.length_append, List.length_cons, List.length_nil]
        refine ⟨by omega, by omega, fun j hj => ?_, by omega, fun j h1 h2 => ?_⟩
        · by_cases hjo : j = o.length
          · subst hjo; simp [pg_snoc]
          · have hjl : j < o.length := by omega
            rw [if_neg hjo, if_neg hjo, (pg_app hjl).1, (pg_app hjl).2]; exact i2 j hjl
        · rw [if_neg (by omega), if_neg (by omega)]; exact i4 j (by omega) h2
      · simp only [hs, List.length_append, List.length_cons, List.length_nil]
        simp (config := {contextual := true}) [idTo, noW, fstNodup, cV, cE, cL, cVs, cView, cEnt, cRow, look, Row.z, Row.n, Row.at, Ent.w, Ent.m, Ent.row, lessP, hw2, hw4]
        intro j hj
        by_cases hjo : j = o.length
        · simp [hjo, cLs, cL, e1, e2]
        · simp [hjo, cLs, cL]
    · have hv : ¬ ph l i ≠ 0 := by rw [← e2]; exact hbk.1 rfl
      rw [if_neg hv] at hs
      simp only [sel_false, Bool.not_true]
      refine ⟨(i + 1, u, v), [(0, 0)], ?_, by simp only; omega, ?_⟩
      · simp only [hs]
        exact ⟨by omega, by omega, i2, by omega, fun j h1 h2 => i4 j (by omega) h2⟩
      · simp only [hs]
        simp (config := {contextual := true}) [idTo, noW, fstNodup, cV, cE, cL, cLs, cVs, cView, cEnt, cRow, look, Row.z, Row.n, Row.at, Ent.w, Ent.m, Ent.row, lessP, hw2]
  · obtain rfl : i = n := by omega
    rw [hdl]
    generalize delT l i = o at *
    refine ⟨⟨by omega, by omega⟩, ?_⟩
    refine D.lessS ⟨rg 42 [(0, .sl 0 0 0 i p), (5, .i64 o.length), (38, .sl 0 0 o.length (i - o.length) (p - o.length))], [some (.one true (.arr 2 o.length (row2 (pg o) (ph o))))]⟩ [(0, 0)] ?_ ?_
    · simp (config := {contextual := true}) [idTo, noW, fstNodup, cV, cE, cL, cLs, cVs, cView, cEnt, cRow, look, Row.z, Row.n, Row.at, Ent.w, Ent.m, Ent.row, lessP, rg, List.replicate_succ]
      intro j hj
      refine ⟨by omega, ?_⟩
      simp [i2 j hj]
    simp only [rg, List.replicate_succ, List.replicate_zero, List.set_cons_zero, List.set_cons_succ]
    refine D.op rfl (OpT.clear tok rfl rfl rfl rfl (Nat.le_refl _) rfl rfl) ?_
    simp only [put]
    refine run_ok tok 400 _ _ ?_; simp only [run_opsNil, run_op, run_seq, run_ret, run_region, dop, ev, put, dSlice, dSliceL, optMap, pureP, tab, List.getD_cons_zero, List.getD_cons_succ, List.set_cons_zero, List.set_cons_succ, Option.map_some, true_and, Int.toNat_natCast]
    refine ⟨⟨by omega, by omega⟩, ?_⟩
    refine Out.of [(0, 0)] ?_; simp (config := {contextual := true}) [outP, outOf, resL, idTo, noW, fstNodup, cV, cE, cL, cLs, cView, cEnt, cRow, look, Row.z, Row.n, Row.at, Ent.w, Ent.m, Ent.row]
end Go.Proofs.YtaklcaejeaiagaaE
