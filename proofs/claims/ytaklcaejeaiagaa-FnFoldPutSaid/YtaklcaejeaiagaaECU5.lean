/- A part of the proof of a law of the given program: contracts of functions. No condition of its own. -/
import Derived.Test.YtaklcaejeaiagaaECU4
namespace Go.Proofs.YtaklcaejeaiagaaE
open Go.Proofs
set_option maxRecDepth 100000
theorem find_ex (P : Nat → Prop) : ∀ n : Nat, ∃ r : Int, (r = -1 ∧ ∀ i, i < n → P i) ∨ ∃ i : Nat, i < n ∧ r = i ∧ ¬ P i ∧ ∀ j, j < i → P j
  | 0 => ⟨-1, .inl ⟨rfl, fun i hi => by omega⟩⟩
  | n + 1 => by
    obtain ⟨r, h⟩ := find_ex P n
    rcases h with ⟨h1, h2⟩ | ⟨i, h1, h2, h3, h4⟩
    · by_cases hc : P n
      · refine ⟨-1, .inl ⟨rfl, fun i hi => ?_⟩⟩
        by_cases hin : i = n
        · subst hin; exact hc
        · exact h2 i (by omega)
      · exact ⟨n, .inr ⟨n, by omega, rfl, hc, h2⟩⟩
    · exact ⟨r, .inr ⟨i, by omega, h2, h3, h4⟩⟩
theorem t138 (n p : Nat) (hn : n ≤ 1048576) (a b c : Nat → Int) (r : Int) (hr : (r = -1 ∧ ∀ i, i < n → goodG (a i) (b i) (c i)) ∨ ∃ i : Nat, i < n ∧ r = i ∧ ¬ goodG (a i) (b i) (c i) ∧ ∀ j, j < i → goodG (a j) (b j) (c j)) : Tri Try.prog 138 [.sl 0 0 0 n p, .fn 105 []] [some (.one false (.arr 3 n (row3 a b c)))] (.i64 r) [some (.one false (.arr 3 n (row3 a b c)))] := by
  refine Tri.of tok Try.func138 rfl ?_; simp only [Try.ntmps138, Try.results138, List.length_cons, List.length_nil, Nat.reduceAdd, Nat.reduceSub, List.replicate_succ, List.replicate_zero, List.cons_append, List.nil_append]; refine run_ok tok 400 _ _ ?_; simp only [run_opsNil, run_op, run_seq, run_block, run_region, run_loop, dop, ev, ofV, ofLeaf, put, dLen, dBuiltin, pureO, tab, List.getD_cons_zero, List.getD_cons_succ, List.set_cons_zero, List.set_cons_succ, Option.map_some, true_and, List.map_cons, List.map_nil]
  refine D.loopI (fun k : Nat => ⟨rg 19 [(0, .sl 0 0 0 n p), (1, .fn 105 []), (7, .i64 n), (8, .i64 k)], [some (.one false (.arr 3 n (row3 a b c)))]⟩) (fun k => k ≤ n ∧ ∀ j, j < k → goodG (a j) (b j) (c j)) (fun k => n - k) 0 [(0, 0)] ⟨Nat.zero_le _, fun j hj => by omega⟩ ?_ ?_
  · simp (config := {contextual := true}) [idTo, noW, fstNodup, cV, cE, cL, cLs, cVs, cView, cEnt, cRow, look, Row.z, Row.n, Row.at, Ent.w, Ent.m, Ent.row, lessP, rg, List.replicate_succ]
  · intro k ⟨hk, hg⟩
    simp only [rg, List.replicate_succ, List.replicate_zero, List.set_cons_zero, List.set_cons_succ]
    refine run_ok tok 400 _ _ ?_; simp only [↓reduceIte, run_opsNil, run_op, run_skip, run_seq, run_block, run_cond, run_exit, run_ret, run_region, dop, ev, ofV, ofLeaf, put, told, exitT, dBin, dIndexAddr, dLoad, Row.z, Row.n, Row.at, Ent.m, Ent.row, look, pureP, tab, TK.agg, List.getD_cons_zero, List.getD_cons_succ, List.set_cons_zero, List.set_cons_succ, Option.map_some, Option.join_some, List.getElem?_cons_zero, true_and, and_true, List.drop_zero, List.take_succ_cons, List.take_nil, Nat.reduceLeDiff, Nat.lt_add_one, true_or, Nat.zero_add, Int.toNat_natCast, Nat.reduceEqDiff]
    refine ⟨fun h => ?_, fun h => ?_⟩ <;> try simp only [decide_eq_true_eq, decide_eq_false_iff_not] at h
    · refine ⟨⟨by omega, by omega⟩, by omega, ?_⟩
      refine D.call Try.func105 [] (t105 (a k) (b k) (c k)) ?_; simp only [callP, callOk, wOk, jsOf, noW, fstNodup, allW, sig, renV, renE, renL, afterH, backH, capV, cV, cE, cL, cLs, cVs, cView, ev, Ent.w, put, List.lookup_nil, Bool.or_true, Bool.and_true, List.all_nil, List.getD_cons_zero, List.getD_cons_succ, List.set_cons_zero, List.set_cons_succ, List.length_cons, List.length_nil, List.drop_nil, List.map_cons, List.map_nil, List.append_nil, Nat.zero_add, decide_true, true_and, and_self, Int.reduceNeg]; refine run_ok tok 400 _ _ ?_; simp only [↓reduceIte, run_blk, run_back, run_opsNil, run_op, run_skip, run_seq, run_cond, run_ret, run_region, dop, ev, ofV, ofLeaf, put, told, dBin, pureP, List.getD_cons_zero, List.getD_cons_succ, List.set_cons_zero, List.set_cons_succ, Option.map_some, true_and]
      refine ⟨fun h4 => ?_, fun h4 => ?_⟩ <;> try simp only [Bool.not_eq_true', Bool.not_eq_false', decide_eq_true_eq, decide_eq_false_iff_not] at h4
      · have h5 : r = k := by
          rcases hr with ⟨_, h6⟩ | ⟨i, h6, h7, h8, h9⟩
          · exact absurd (h6 k (by omega)) h4
          · rcases Nat.lt_trichotomy i k with h | h | h
            · exact absurd (hg i h) h8
            · omega
            · exact absurd (h9 k h) h4
        refine Out.of [(0, 0)] ?_; simp (config := {contextual := true}) [outP, outOf, resL, idTo, noW, fstNodup, cV, cE, cL, cLs, cView, cEnt, cRow, look, Row.z, Row.n, Row.at, Ent.w, Ent.m, Ent.row, h5]
      · have hw : IntKind.i64.wrap ((k : Int) + 1) = ((k + 1 : Nat) : Int) := by rw [IntKind.wrap_i64]; omega
        refine ⟨k + 1, [(0, 0)], ⟨by omega, fun j hj => ?_⟩, by omega, ?_⟩
        · by_cases hjk : j = k
          · subst hjk; exact h4
          · exact hg j (by omega)
        · simp (config := {contextual := true}) [idTo, noW, fstNodup, cV, cE, cL, cLs, cVs, cView, cEnt, cRow, look, Row.z, Row.n, Row.at, Ent.w, Ent.m, Ent.row, lessP, hw]
    · obtain rfl : k = n := by omega
      have h5 : r = -1 := by
        rcases hr with ⟨h6, _⟩ | ⟨i, h6, h7, h8, h9⟩
        · exact h6
        · exact absurd (hg i h6) h8
      refine Out.of [(0, 0)] ?_; simp (config := {contextual := true}) [outP, outOf, resL, idTo, noW, fstNodup, cV, cE, cL, cLs, cView, cEnt, cRow, look, Row.z, Row.n, Row.at, Ent.w, Ent.m, Ent.row, h5]
theorem t109 (n p : Nat) (hn : n ≤ 1048576) (a b c : Nat → Int) (bb : Bool) (hbb : bb = true ↔ ¬ ∀ i, i < n → goodG (a i) (b i) (c i)) : Tri Try.prog 109 [.sl 0 0 0 n p, .fn 105 []] [some (.one false (.arr 3 n (row3 a b c)))] (.bool bb) [some (.one false (.arr 3 n (row3 a b c)))] := by
  obtain ⟨r, hr⟩ := find_ex (fun i => goodG (a i) (b i) (c i)) n
  have h1 : decide (0 ≤ r) = bb := by
    rcases hr with ⟨h2, h3⟩ | ⟨i, h2, h3, h4, h5⟩
    · rw [no_of hbb (fun hh => hh h3)]; simp only [decide_eq_false_iff_not]; omega
    · rw [yes_of hbb (fun hh => h4 (hh i h2))]; simp only [decide_eq_true_eq]; omega
  refine Tri.of tok Try.func109 rfl ?_; simp only [Try.ntmps109, Try.results109, List.length_cons, List.length_nil, Nat.reduceAdd, Nat.reduceSub, List.replicate_succ, List.replicate_zero, List.cons_append, List.nil_append]; refine run_ok tok 400 _ _ ?_; simp only [run_opsNil, run_op, run_seq, run_region, dop, ev, ofV, ofLeaf, put, List.getD_cons_zero, List.getD_cons_succ, List.set_cons_zero, List.set_cons_succ, true_and]
  refine D.call Try.func138 [(0, 0)] (t138 n p hn a b c r hr) ?_; simp only [↓reduceIte, callP, callOk, wOk, jsOf, noW, fstNodup, allW, sig, renV, renE, renL, afterH, backH, capV, cV, cE, cL, cLs, cVs, cView, cEnt, cRow, ev, look, Row.z, Row.n, Row.at, Ent.w, Ent.m, Ent.row, put, List.lookup_nil, Bool.or_true, Bool.or_false, Bool.and_true, Bool.and_false, Bool.not_false, beq_self_eq_true, List.any_nil, List.all_cons, List.all_nil, List.getD_cons_zero, List.getD_cons_succ, List.set_cons_zero, List.set_cons_succ, List.getElem?_cons_zero, List.length_cons, List.length_nil, List.drop_succ_cons, List.drop_nil, List.map_cons, List.map_nil, List.append_nil, Option.join_some, Nat.lt_add_one, Nat.add_zero, Nat.zero_add, Nat.le_refl, decide_true, true_and, and_true, and_self, implies_true, imp_self, Bool.false_eq_true]; refine run_ok tok 400 _ _ ?_; simp only [↓reduceIte, run_opsNil, run_op, run_ret, dop, ev, ofV, ofLeaf, put, dBin, pureP, List.getD_cons_zero, List.getD_cons_succ, List.set_cons_zero, List.set_cons_succ, Option.map_some, true_and]
  refine Out.of [(0, 0)] ?_; simp (config := {contextual := true}) [outP, outOf, resL, idTo, noW, fstNodup, cV, cE, cL, cLs, cView, cEnt, cRow, look, Row.z, Row.n, Row.at, Ent.w, Ent.m, Ent.row, h1]
theorem t139 (n p : Nat) (hn : n ≤ 1048576) (a b c : Nat → Int) (r : Int) (hr : (r = -1 ∧ ∀ i, i < n → goodW (a i) (b i) (c i)) ∨ ∃ i : Nat, i < n ∧ r = i ∧ ¬ goodW (a i) (b i) (c i) ∧ ∀ j, j < i → goodW (a j) (b j) (c j)) : Tri Try.prog 139 [.sl 0 0 0 n p, .fn 108 []] [some (.one false (.arr 3 n (row3 a b c)))] (.i64 r) [some (.one false (.arr 3 n (row3 a b c)))] := by
  refine Tri.of tok Try.func139 rfl ?_; simp only [Try.ntmps139, Try.results139, List.length_cons, List.length_nil, Nat.reduceAdd, Nat.reduceSub, List.replicate_succ, List.replicate_zero, List.cons_append, List.nil_append]; refine run_ok tok 400 _ _ ?_; simp only [run_opsNil, run_op, run_seq, run_block, run_region, run_loop, dop, ev, ofV, ofLeaf, put, dLen, dBuiltin, pureO, tab, List.getD_cons_zero, List.getD_cons_succ, List.set_cons_zero, List.set_cons_succ, Option.map_some, true_and, List.map_cons, List.map_nil]
  refine D.loopI (fun k : Nat => ⟨rg 19 [(0, .sl 0 0 0 n p), (1, .fn 108 []), (7, .i64 n), (8, .i64 k)], [some (.one false (.arr 3 n (row3 a b c)))]⟩) (fun k => k ≤ n ∧ ∀ j, j < k → goodW (a j) (b j) (c j)) (fun k => n - k) 0 [(0, 0)] ⟨Nat.zero_le _, fun j hj => by omega⟩ ?_ ?_
  · simp (config := {contextual := true}) [idTo, noW, fstNodup, cV, cE, cL, cLs, cVs, cView, cEnt, cRow, look, Row.z, Row.n, Row.at, Ent.w, Ent.m, Ent.row, lessP, rg, List.replicate_succ]
  · intro k ⟨hk, hg⟩
    simp only [rg, List.replicate_succ, List.replicate_zero, List.set_cons_zero, List.set_cons_succ]
    refine run_ok tok 400 _ _ ?_; simp only [↓reduceIte, run_opsNil, run_op, run_skip, run_seq, run_block, run_cond, run_exit, run_ret, run_region, dop, ev, ofV, ofLeaf, put, told, exitT, dBin, dIndexAddr, dLoad, Row.z, Row.n, Row.at, Ent.m, Ent.row, look, pureP, tab, TK.agg, List.getD_cons_zero, List.getD_cons_succ, List.set_cons_zero, List.set_cons_succ, Option.map_some, Option.join_some, List.getElem?_cons_zero, true_and, and_true, List.drop_zero, List.take_succ_cons, List.take_nil, Nat.reduceLeDiff, Nat.lt_add_one, true_or, Nat.zero_add, Int.toNat_natCast, Nat.reduceEqDiff]
    refine ⟨fun h => ?_, fun h => ?_⟩ <;> try simp only [decide_eq_true_eq, decide_eq_false_iff_not] at h
    · refine ⟨⟨by omega, by omega⟩, by omega, ?_⟩
      refine D.call Try.func108 [] (t108 (a k) (b k) (c k)) ?_; simp only [callP, callOk, wOk, jsOf, noW, fstNodup, allW, sig, renV, renE, renL, afterH, backH, capV, cV, cE, cL, cLs, cVs, cView, ev, Ent.w, put, List.lookup_nil, Bool.or_true, Bool.and_true, List.all_nil, List.getD_cons_zero, List.getD_cons_succ, List.set_cons_zero, List.set_cons_succ, List.length_cons, List.length_nil, List.drop_nil, List.map_cons, List.map_nil, List.append_nil, Nat.zero_add, decide_true, true_and, and_self, Int.reduceNeg]; refine run_ok tok 400 _ _ ?_; simp only [↓reduceIte, run_blk, run_back, run_opsNil, run_op, run_skip, run_seq, run_cond, run_ret, run_region, dop, ev, ofV, ofLeaf, put, told, dBin, pureP, List.getD_cons_zero, List.getD_cons_succ, List.set_cons_zero, List.set_cons_succ, Option.map_some, true_and]
      refine ⟨fun h4 => ?_, fun h4 => ?_⟩ <;> try simp only [Bool.not_eq_true', Bool.not_eq_false', decide_eq_true_eq, decide_eq_false_iff_not] at h4
      · have h5 : r = k := by
          rcases hr with ⟨_, h6⟩ | ⟨i, h6, h7, h8, h9⟩
          · exact absurd (h6 k (by omega)) h4
          · rcases Nat.lt_trichotomy i k with h | h | h
            · exact absurd (hg i h) h8
            · omega
            · exact absurd (h9 k h) h4
        refine Out.of [(0, 0)] ?_; simp (config := {contextual := true}) [outP, outOf, resL, idTo, noW, fstNodup, cV, cE, cL, cLs, cView, cEnt, cRow, look, Row.z, Row.n, Row.at, Ent.w, Ent.m, Ent.row, h5]
      · have hw : IntKind.i64.wrap ((k : Int) + 1) = ((k + 1 : Nat) : Int) := by rw [IntKind.wrap_i64]; omega
        refine ⟨k + 1, [(0, 0)], ⟨by omega, fun j hj => ?_⟩, by omega, ?_⟩
        · by_cases hjk : j = k
          · subst hjk; exact h4
          · exact hg j (by omega)
        · simp (config := {contextual := true}) [idTo, noW, fstNodup, cV, cE, cL, cLs, cVs, cView, cEnt, cRow, look, Row.z, Row.n, Row.at, Ent.w, Ent.m, Ent.row, lessP, hw]
    · obtain rfl : k = n := by omega
      have h5 : r = -1 := by
        rcases hr with ⟨h6, _⟩ | ⟨i, h6, h7, h8, h9⟩
        · exact h6
        · exact absurd (hg i h6) h8
      refine Out.of [(0, 0)] ?_; simp (config := {contextual := true}) [outP, outOf, resL, idTo, noW, fstNodup, cV, cE, cL, cLs, cView, cEnt, cRow, look, Row.z, Row.n, Row.at, Ent.w, Ent.m, Ent.row, h5]
theorem t110 (n p : Nat) (hn : n ≤ 1048576) (a b c : Nat → Int) (bb : Bool) (hbb : bb = true ↔ ¬ ∀ i, i < n → goodW (a i) (b i) (c i)) : Tri Try.prog 110 [.sl 0 0 0 n p, .fn 108 []] [some (.one false (.arr 3 n (row3 a b c)))] (.bool bb) [some (.one false (.arr 3 n (row3 a b c)))] := by
  obtain ⟨r, hr⟩ := find_ex (fun i => goodW (a i) (b i) (c i)) n
  have h1 : decide (0 ≤ r) = bb := by
    rcases hr with ⟨h2, h3⟩ | ⟨i, h2, h3, h4, h5⟩
    · rw [no_of hbb (fun hh => hh h3)]; simp only [decide_eq_false_iff_not]; omega
    · rw [yes_of hbb (fun hh => h4 (hh i h2))]; simp only [decide_eq_true_eq]; omega
  refine Tri.of tok Try.func110 rfl ?_; simp only [Try.ntmps110, Try.results110, List.length_cons, List.length_nil, Nat.reduceAdd, Nat.reduceSub, List.replicate_succ, List.replicate_zero, List.cons_append, List.nil_append]; refine run_ok tok 400 _ _ ?_; simp only [run_opsNil, run_op, run_seq, run_region, dop, ev, ofV, ofLeaf, put, List.getD_cons_zero, List.getD_cons_succ, List.set_cons_zero, List.set_cons_succ, true_and]
  refine D.call Try.func139 [(0, 0)] (t139 n p hn a b c r hr) ?_; simp only [↓reduceIte, callP, callOk, wOk, jsOf, noW, fstNodup, allW, sig, renV, renE, renL, afterH, backH, capV, cV, cE, cL, cLs, cVs, cView, cEnt, cRow, ev, look, Row.z, Row.n, Row.at, Ent.w, Ent.m, Ent.row, put, List.lookup_nil, Bool.or_true, Bool.or_false, Bool.and_true, Bool.and_false, Bool.not_false, beq_self_eq_true, List.any_nil, List.all_cons, List.all_nil, List.getD_cons_zero, List.getD_cons_succ, List.set_cons_zero, List.set_cons_succ, List.getElem?_cons_zero, List.length_cons, List.length_nil, List.drop_succ_cons, List.drop_nil, List.map_cons, List.map_nil, List.append_nil, Option.join_some, Nat.lt_add_one, Nat.add_zero, Nat.zero_add, Nat.le_refl, decide_true, true_and, and_true, and_self, implies_true, imp_self, Bool.false_eq_true]; refine run_ok tok 400 _ _ ?_; simp only [↓reduceIte, run_opsNil, run_op, run_ret, dop, ev, ofV, ofLeaf, put, dBin, pureP, List.getD_cons_zero, List.getD_cons_succ, List.set_cons_zero, List.set_cons_succ, Option.map_some, true_and]
  refine Out.of [(0, 0)] ?_; simp (config := {contextual := true}) [outP, outOf, resL, idTo, noW, fstNodup, cV, cE, cL, cLs, cView, cEnt, cRow, look, Row.z, Row.n, Row.at, Ent.w, Ent.m, Ent.row, h1]
theorem t140 (n p : Nat) (hn : n ≤ 1048576) (a : Nat → Int) (r : Int) (hr : (r = -1 ∧ ∀ i, i < n → isK (a i)) ∨ ∃ i : Nat, i < n ∧ r = i ∧ ¬ isK (a i) ∧ ∀ j, j < i → isK (a j)) : Tri Try.prog 140 [.sl 0 0 0 n p, .fn 112 []] [some (.one false (.arr 1 n (row1 a)))] (.i64 r) [some (.one false (.arr 1 n (row1 a)))] := by
  refine Tri.of tok Try.func140 rfl ?_; simp only [Try.ntmps140, Try.results140, List.length_cons, List.length_nil, Nat.reduceAdd, Nat.reduceSub, List.replicate_succ, List.replicate_zero, List.cons_append, List.nil_append]; refine run_ok tok 400 _ _ ?_; simp only [run_opsNil, run_op, run_seq, run_block, run_region, run_loop, dop, ev, ofV, ofLeaf, put, dLen, dBuiltin, pureO, tab, List.getD_cons_zero, List.getD_cons_succ, List.set_cons_zero, List.set_cons_succ, Option.map_some, true_and, List.map_cons, List.map_nil]
  refine D.loopI (fun k : Nat => ⟨rg 19 [(0, .sl 0 0 0 n p), (1, .fn 112 []), (7, .i64 n), (8, .i64 k)], [some (.one false (.arr 1 n (row1 a)))]⟩) (fun k => k ≤ n ∧ ∀ j, j < k → isK (a j)) (fun k => n - k) 0 [(0, 0)] ⟨Nat.zero_le _, fun j hj => by omega⟩ ?_ ?_
  · simp (config := {contextual := true}) [idTo, noW, fstNodup, cV, cE, cL, cLs, cVs, cView, cEnt, cRow, look, Row.z, Row.n, Row.at, Ent.w, Ent.m, Ent.row, lessP, rg, List.replicate_succ]
  · intro k ⟨hk, hg⟩
    simp only [rg, List.replicate_succ, List.replicate_zero, List.set_cons_zero, List.set_cons_succ]
    refine run_ok tok 400 _ _ ?_; simp only [↓reduceIte, run_opsNil, run_op, run_skip, run_seq, run_block, run_cond, run_exit, run_ret, run_region, dop, ev, ofV, ofLeaf, put, told, exitT, dBin, dIndexAddr, dLoad, Row.z, Row.n, Row.at, Ent.m, Ent.row, look, pureP, tab, TK.agg, List.getD_cons_zero, List.getD_cons_succ, List.set_cons_zero, List.set_cons_succ, Option.map_some, Option.join_some, List.getElem?_cons_zero, Bool.false_eq_true, true_and, and_true, List.drop_zero, List.take_succ_cons, List.take_nil, List.headD_cons, Nat.reduceLeDiff, Nat.lt_add_one, or_true, Nat.zero_add, Int.toNat_natCast]
    refine ⟨fun h => ?_, fun h => ?_⟩ <;> try simp only [decide_eq_true_eq, decide_eq_false_iff_not] at h
    · refine ⟨⟨by omega, by omega⟩, by omega, ?_⟩
      refine D.call Try.func112 [] (t112 (a k)) ?_; simp only [callP, callOk, wOk, jsOf, noW, fstNodup, allW, sig, renV, renE, renL, afterH, backH, capV, cV, cE, cL, cVs, cView, ev, Ent.w, put, List.lookup_nil, Bool.or_true, Bool.and_true, List.all_nil, List.getD_cons_zero, List.getD_cons_succ, List.set_cons_zero, List.set_cons_succ, List.length_cons, List.length_nil, List.drop_nil, List.map_cons, List.map_nil, List.append_nil, Nat.zero_add, decide_true, true_and, and_self, Int.reduceNeg]; refine run_ok tok 400 _ _ ?_; simp only [↓reduceIte, run_blk, run_back, run_opsNil, run_op, run_skip, run_seq, run_cond, run_ret, run_region, dop, ev, ofV, ofLeaf, put, told, dBin, pureP, List.getD_cons_zero, List.getD_cons_succ, List.set_cons_zero, List.set_cons_succ, Option.map_some, true_and]
      refine ⟨fun h4 => ?_, fun h4 => ?_⟩ <;> try simp only [Bool.not_eq_true', Bool.not_eq_false', decide_eq_true_eq, decide_eq_false_iff_not] at h4
      · have h5 : r = k := by
          rcases hr with ⟨_, h6⟩ | ⟨i, h6, h7, h8, h9⟩
          · exact absurd (h6 k (by omega)) h4
          · rcases Nat.lt_trichotomy i k with h | h | h
            · exact absurd (hg i h) h8
            · omega
            · exact absurd (h9 k h) h4
        refine Out.of [(0, 0)] ?_; simp (config := {contextual := true}) [outP, outOf, resL, idTo, noW, fstNodup, cV, cE, cL, cLs, cView, cEnt, cRow, look, Row.z, Row.n, Row.at, Ent.w, Ent.m, Ent.row, h5]
      · have hw : IntKind.i64.wrap ((k : Int) + 1) = ((k + 1 : Nat) : Int) := by rw [IntKind.wrap_i64]; omega
        refine ⟨k + 1, [(0, 0)], ⟨by omega, fun j hj => ?_⟩, by omega, ?_⟩
        · by_cases hjk : j = k
          · subst hjk; exact h4
          · exact hg j (by omega)
        · simp (config := {contextual := true}) [idTo, noW, fstNodup, cV, cE, cL, cLs, cVs, cView, cEnt, cRow, look, Row.z, Row.n, Row.at, Ent.w, Ent.m, Ent.row, lessP, hw]
    · obtain rfl : k = n := by omega
      have h5 : r = -1 := by
        rcases hr with ⟨h6, _⟩ | ⟨i, h6, h7, h8, h9⟩
        · exact h6
        · exact absurd (hg i h6) h8
      refine Out.of [(0, 0)] ?_; simp (config := {contextual := true}) [outP, outOf, resL, idTo, noW, fstNodup, cV, cE, cL, cLs, cView, cEnt, cRow, look, Row.z, Row.n, Row.at, Ent.w, Ent.m, Ent.row, h5]
theorem t111 (n p : Nat) (hn : n ≤ 1048576) (a : Nat → Int) (bb : Bool) (hbb : bb = true ↔ ¬ ∀ i, i < n → isK (a i)) : Tri Try.prog 111 [.sl 0 0 0 n p, .fn 112 []] [some (.one false (.arr 1 n (row1 a)))] (.bool bb) [some (.one false (.arr 1 n (row1 a)))] := by
  obtain ⟨r, hr⟩ := find_ex (fun i => isK (a i)) n
  have h1 : decide (0 ≤ r) = bb := by
    rcases hr with ⟨h2, h3⟩ | ⟨i, h2, h3, h4, h5⟩
    · rw [no_of hbb (fun hh => hh h3)]; simp only [decide_eq_false_iff_not]; omega
    · rw [yes_of hbb (fun hh => h4 (hh i h2))]; simp only [decide_eq_true_eq]; omega
  refine Tri.of tok Try.func111 rfl ?_; simp only [Try.ntmps111, Try.results111, List.length_cons, List.length_nil, Nat.reduceAdd, Nat.reduceSub, List.replicate_succ, List.replicate_zero, List.cons_append, List.nil_append]; refine run_ok tok 400 _ _ ?_; simp only [run_opsNil, run_op, run_seq, run_region, dop, ev, ofV, ofLeaf, put, List.getD_cons_zero, List.getD_cons_succ, List.set_cons_zero, List.set_cons_succ, true_and]
  refine D.call Try.func140 [(0, 0)] (t140 n p hn a r hr) ?_; simp only [↓reduceIte, callP, callOk, wOk, jsOf, noW, fstNodup, allW, sig, renV, renE, renL, afterH, backH, capV, cV, cE, cL, cLs, cVs, cView, cEnt, cRow, ev, look, Row.z, Row.n, Row.at, Ent.w, Ent.m, Ent.row, put, List.lookup_nil, Bool.or_true, Bool.or_false, Bool.and_true, Bool.and_false, Bool.not_false, beq_self_eq_true, List.any_nil, List.all_cons, List.all_nil, List.getD_cons_zero, List.getD_cons_succ, List.set_cons_zero, List.set_cons_succ, List.getElem?_cons_zero, List.length_cons, List.length_nil, List.drop_succ_cons, List.drop_nil, List.map_cons, List.map_nil, List.append_nil, Option.join_some, Nat.lt_add_one, Nat.add_zero, Nat.zero_add, Nat.le_refl, decide_true, true_and, and_true, and_self, implies_true, imp_self, Bool.false_eq_true]; refine run_ok tok 400 _ _ ?_; simp only [↓reduceIte, run_opsNil, run_op, run_ret, dop, ev, ofV, ofLeaf, put, dBin, pureP, List.getD_cons_zero, List.getD_cons_succ, List.set_cons_zero, List.set_cons_succ, Option.map_some, true_and]
  refine Out.of [(0, 0)] ?_; simp (config := {contextual := true}) [outP, outOf, resL, idTo, noW, fstNodup, cV, cE, cL, cLs, cView, cEnt, cRow, look, Row.z, Row.n, Row.at, Ent.w, Ent.m, Ent.row, h1]
end Go.Proofs.YtaklcaejeaiagaaE
