/- A part of the proof of a law of the given program: contracts of functions. No condition of its own. -/
import Derived.Test.YtaklcaejeaiagaaETabX
namespace Go.Proofs.YtaklcaejeaiagaaE
open Go.Proofs
set_option maxRecDepth 100000
theorem t89 (n lo hi : Int) : Tri Try.prog 89 [.i64 n, .i64 lo, .i64 hi] [] (.bool (decide (lo ≤ n ∧ n ≤ hi))) [] := by
  refine Tri.of tok Try.func89 rfl ?_; simp only [Try.ntmps89, Try.results89, List.length_cons, List.length_nil, Nat.reduceAdd, Nat.reduceSub, List.replicate_succ, List.replicate_zero, List.cons_append, List.nil_append]; refine run_ok tok 400 _ _ ?_; simp only [↓reduceIte, run_opsNil, run_op, run_opT, run_seq, run_ret, run_region, dop, ev, ofV, ofLeaf, put, yield, dBin, pureP, ↓sel_true, ↓sel_false, List.getD_cons_zero, List.getD_cons_succ, List.set_cons_zero, List.set_cons_succ, Option.map_some, Option.bind_some, List.getElem?_toArray, List.getElem?_cons_zero, List.getElem?_cons_succ, Bool.false_eq_true, true_and]
  refine ⟨fun h => ?_, fun h => ?_⟩ <;> refine Out.of [] ?_ <;> simp only [decide_eq_true_eq, decide_eq_false_iff_not] at h <;> simp [outP, outOf, resL, idTo, noW, fstNodup, cV, cE, cL, cView, Ent.w, h]
theorem t95 (n lo hi : Int) : Tri Try.prog 95 [.i64 n, .i64 lo, .i64 hi] [] (.bool (decide (lo ≤ n ∧ n ≤ hi))) [] := by
  refine Tri.of tok Try.func95 rfl ?_; simp only [Try.ntmps95, Try.results95, List.length_cons, List.length_nil, Nat.reduceAdd, Nat.reduceSub, List.replicate_succ, List.replicate_zero, List.cons_append, List.nil_append]; refine run_ok tok 400 _ _ ?_; simp only [↓reduceIte, run_opsNil, run_op, run_opT, run_seq, run_ret, run_region, dop, ev, ofV, ofLeaf, put, yield, dBin, pureP, ↓sel_true, ↓sel_false, List.getD_cons_zero, List.getD_cons_succ, List.set_cons_zero, List.set_cons_succ, Option.map_some, Option.bind_some, List.getElem?_toArray, List.getElem?_cons_zero, List.getElem?_cons_succ, Bool.false_eq_true, true_and]
  refine ⟨fun h => ?_, fun h => ?_⟩ <;> refine Out.of [] ?_ <;> simp only [decide_eq_true_eq, decide_eq_false_iff_not] at h <;> simp [outP, outOf, resL, idTo, noW, fstNodup, cV, cE, cL, cView, Ent.w, h]
theorem t161 (n : Int) : Tri Try.prog 161 [.i64 n] [] (.bool (decide (0 ≤ n ∧ n ≤ 4))) [] := by
  refine Tri.of tok Try.func161 rfl ?_; simp only [Try.ntmps161, Try.results161, List.length_cons, List.length_nil, Nat.reduceAdd, Nat.reduceSub, List.replicate_succ, List.replicate_zero, List.cons_append, List.nil_append]; refine run_ok tok 400 _ _ ?_; simp only [run_opsNil, run_op, run_seq, run_region, dop, ev, ofV, ofLeaf, put, List.getD_cons_zero, List.set_cons_zero, List.set_cons_succ, true_and]
  refine D.call Try.func95 [] (t95 n 0 4) ?_
  simp only [callP, callOk, wOk, noW, fstNodup, allW, sig, renV, renE, renL, afterH, backH, capV, cV, cE, cL, cVs, cView, ev, ofV, ofLeaf, Ent.w, put, Bool.or_true, Bool.and_true, List.all_nil, List.getD_cons_zero, List.getD_cons_succ, List.set_cons_zero, List.set_cons_succ, List.length_nil, List.drop_nil, List.map_cons, List.map_nil, List.append_nil, Nat.not_lt_zero, decide_true, decide_false, true_and, and_self]
  refine run_ok tok 400 _ _ ?_; simp only [run_opsNil, run_op, run_ret, dop, ev, put, List.getD_cons_zero, List.getD_cons_succ, List.set_cons_zero, List.set_cons_succ, true_and]
  refine Out.of [] ?_
  simp [outP, outOf, resL, idTo, noW, fstNodup, cV, cE, cL, cView, Ent.w]
theorem t160 (k : Nat) (hk : k ≤ 5) : Tri Try.prog 160 [.i64 k] [] (.i64 (2 ^ k)) [] := by
  refine Tri.of tok Try.func160 rfl ?_; simp only [Try.ntmps160, Try.results160, List.length_cons, List.length_nil, Nat.reduceAdd, Nat.reduceSub, List.replicate_succ, List.replicate_zero, List.cons_append, List.nil_append]; refine run_ok tok 400 _ _ ?_; simp only [run_opsNil, run_op, run_seq, run_block, run_region, run_loop, dop, ev, ofV, ofLeaf, put, List.set_cons_zero, List.set_cons_succ, true_and]
  refine D.loopI (fun i : Nat => ⟨rg 13 [(0, .i64 k), (3, .i64 (2 ^ i)), (4, .i64 i)], []⟩) (fun i => i ≤ k) (fun i => k - i) 0 [] (Nat.zero_le _) ?_ ?_
  · simp [idTo, noW, fstNodup, cV, cE, cL, cVs, cView, Ent.w, lessP, rg, List.replicate_succ]
  · intro i hi
    simp only [rg, List.replicate_succ, List.replicate_zero, List.set_cons_zero, List.set_cons_succ]
    refine run_ok tok 400 _ _ ?_; simp only [↓reduceIte, run_blk, run_back, run_opsNil, run_op, run_skip, run_seq, run_block, run_cond, run_exit, run_ret, run_region, dop, ev, ofV, ofLeaf, put, told, exitT, dBin, pureP, List.getD_cons_zero, List.getD_cons_succ, List.set_cons_zero, List.set_cons_succ, Option.map_some, true_and]
    refine ⟨fun h => ?_, fun h => ?_⟩ <;> simp only [decide_eq_true_eq, decide_eq_false_iff_not] at h
    · refine ⟨i + 1, [], by omega, by omega, ?_⟩
      have hw : IntKind.i64.wrap ((i : Int) + 1) = ((i + 1 : Nat) : Int) := by rw [IntKind.wrap_i64]; omega
      have hp : IntKind.i64.wrap ((2 : Int) ^ i * 2) = 2 ^ (i + 1) := by
        have : i = 0 ∨ i = 1 ∨ i = 2 ∨ i = 3 ∨ i = 4 := by omega
        rcases this with rfl | rfl | rfl | rfl | rfl <;> decide
      simp [idTo, noW, fstNodup, cV, cE, cL, cVs, cView, Ent.w, lessP, hw, hp]
    · refine Out.of [] ?_
      obtain rfl : i = k := by omega
      simp [outP, outOf, resL, idTo, noW, fstNodup, cV, cE, cL, cView, Ent.w]
theorem t128 : Tri Try.prog 128 [] [] (.i64 31) [] := by
  refine Tri.of tok Try.func128 rfl ?_; simp only [Try.ntmps128, Try.results128, List.length_nil, Nat.reduceSub, List.replicate_succ, List.replicate_zero, List.nil_append]; refine run_ok tok 400 _ _ ?_; simp only [run_opsNil, run_op, run_seq, run_region, dop, ev, ofV, ofLeaf, put, List.set_cons_zero, true_and]
  refine D.call Try.func160 [] (t160 5 (by omega)) ?_
  simp only [callP, callOk, wOk, noW, fstNodup, allW, sig, renV, renE, renL, afterH, backH, capV, cV, cE, cL, cVs, cView, ev, ofV, ofLeaf, Ent.w, put, Bool.or_true, Bool.and_true, List.all_nil, List.set_cons_zero, List.set_cons_succ, List.length_nil, List.drop_nil, List.map_cons, List.map_nil, List.append_nil, Nat.not_lt_zero, decide_true, decide_false, true_and, and_true]
  refine ⟨rfl, ?_⟩
  refine run_ok tok 400 _ _ ?_; simp only [↓reduceIte, run_opsNil, run_op, run_ret, dop, ev, ofV, ofLeaf, put, dBin, pureP, List.getD_cons_zero, List.getD_cons_succ, List.set_cons_zero, List.set_cons_succ, Option.map_some, true_and]
  refine Out.of [] ?_
  have : IntKind.i64.wrap ((2 : Int) ^ 5 - 1) = 31 := by decide
  have h31 : IntKind.i64.wrap 31 = 31 := by decide
  simp [outP, outOf, resL, idTo, noW, fstNodup, cV, cE, cL, cView, Ent.w, h31]
def hasS (m nd : Int) : Prop := (0 ≤ nd ∧ nd ≤ 4) ∧ (IntKind.i64.wrap (m.tdiv (2 ^ nd.toNat))).tmod 2 = 1
def hasI (m nd : Int) : Prop := (0 ≤ nd ∧ nd ≤ 4) ∧ bits .and .i64 (m / 2 ^ nd.toNat) 1 = 1
instance (m nd : Int) : Decidable (hasS m nd) := inferInstanceAs (Decidable (_ ∧ _))
instance (m nd : Int) : Decidable (hasI m nd) := inferInstanceAs (Decidable (_ ∧ _))
theorem has_same (m nd : Int) (hm : 1 ≤ m ∧ m ≤ 31) : hasI m nd ↔ hasS m nd := by
  by_cases h : 0 ≤ nd ∧ nd ≤ 4
  · obtain ⟨k, rfl⟩ : ∃ k : Nat, nd = k := ⟨nd.toNat, by omega⟩
    obtain ⟨j, rfl⟩ : ∃ k : Nat, m = k := ⟨m.toNat, by omega⟩
    have key : ∀ (j : _root_.Fin 32) (k : _root_.Fin 5), hasI (j.1 : Int) (k.1 : Int) ↔ hasS (j.1 : Int) (k.1 : Int) := by decide
    exact key ⟨j, by omega⟩ ⟨k, by omega⟩
  · simp [hasI, hasS, h]
theorem t129 (m nd : Int) : Tri Try.prog 129 [.i64 m, .i64 nd] [] (.bool (decide (hasS m nd))) [] := by
  refine Tri.of tok Try.func129 rfl ?_; simp only [Try.ntmps129, Try.results129, List.length_cons, List.length_nil, Nat.reduceAdd, Nat.reduceSub, List.replicate_succ, List.replicate_zero, List.cons_append, List.nil_append]; refine run_ok tok 400 _ _ ?_; simp only [run_opsNil, run_op, run_seq, run_region, dop, ev, ofV, ofLeaf, put, List.getD_cons_zero, List.getD_cons_succ, List.set_cons_zero, List.set_cons_succ, true_and]
  refine D.call Try.func89 [] (t89 nd 0 4) ?_
  simp only [callP, callOk, wOk, noW, fstNodup, allW, sig, renV, renE, renL, afterH, backH, capV, cV, cE, cL, cVs, cView, ev, ofV, ofLeaf, Ent.w, put, Bool.or_true, Bool.and_true, List.all_nil, List.getD_cons_zero, List.getD_cons_succ, List.set_cons_zero, List.set_cons_succ, List.length_nil, List.drop_nil, List.map_cons, List.map_nil, List.append_nil, Nat.not_lt_zero, decide_true, decide_false, true_and, and_self]
  refine run_ok tok 400 _ _ ?_; simp only [↓reduceIte, run_opsNil, run_op, run_opT, run_ret, dop, ev, ofV, ofLeaf, put, yield, ↓sel_true, ↓sel_false, List.getD_cons_zero, List.getD_cons_succ, List.set_cons_zero, List.set_cons_succ, Option.map_some, Option.bind_some, List.getElem?_toArray, List.getElem?_cons_zero, List.getElem?_cons_succ, Bool.false_eq_true, true_and]
  refine ⟨fun h => ?_, fun h => ?_⟩ <;> simp only [decide_eq_true_eq, decide_eq_false_iff_not] at h
  · obtain ⟨k, rfl⟩ : ∃ k : Nat, nd = k := ⟨nd.toNat, by omega⟩
    refine D.call Try.func160 [] (t160 k (by omega)) ?_
    simp only [callP, callOk, wOk, noW, fstNodup, allW, sig, renV, renE, renL, afterH, backH, capV, cV, cE, cL, cVs, cView, ev, Ent.w, put, Bool.or_true, Bool.and_true, List.all_nil, List.getD_cons_zero, List.getD_cons_succ, List.set_cons_zero, List.set_cons_succ, List.length_nil, List.drop_nil, List.map_cons, List.map_nil, List.append_nil, Nat.not_lt_zero, decide_true, decide_false, true_and, and_self]
    refine run_ok tok 400 _ _ ?_; simp only [↓reduceIte, run_opsNil, run_op, run_opT, run_ret, dop, ev, ofV, ofLeaf, put, yield, dBin, pureP, ↓sel_true, List.getD_cons_zero, List.getD_cons_succ, List.set_cons_zero, List.set_cons_succ, Option.map_some, Option.bind_some, List.getElem?_toArray, List.getElem?_cons_zero, List.getElem?_cons_succ, true_and]
    have hp : (2 : Int) ^ k ≠ 0 := by exact Int.ne_of_gt (Int.pow_pos (by decide))
    refine ⟨hp, by decide, Out.of [] ?_⟩
    simp [outP, outOf, resL, idTo, noW, fstNodup, cV, cE, cL, cView, Ent.w, hasS, h]
  · refine Out.of [] ?_
    simp [outP, outOf, resL, idTo, noW, fstNodup, cV, cE, cL, cView, Ent.w, hasS, h]
theorem t130 (m nd : Int) : Tri Try.prog 130 [.i64 m, .i64 nd] [] (.bool (decide (hasI m nd))) [] := by
  refine Tri.of tok Try.func130 rfl ?_; simp only [Try.ntmps130, Try.results130, List.length_cons, List.length_nil, Nat.reduceAdd, Nat.reduceSub, List.replicate_succ, List.replicate_zero, List.cons_append, List.nil_append]; refine run_ok tok 400 _ _ ?_; simp only [run_opsNil, run_op, run_seq, run_region, dop, ev, ofV, ofLeaf, put, List.getD_cons_zero, List.getD_cons_succ, List.set_cons_zero, List.set_cons_succ, true_and]
  refine D.call Try.func161 [] (t161 nd) ?_
  simp only [callP, callOk, wOk, noW, fstNodup, allW, sig, renV, renE, renL, afterH, backH, capV, cV, cE, cL, cVs, cView, ev, Ent.w, put, Bool.or_true, Bool.and_true, List.all_nil, List.getD_cons_zero, List.getD_cons_succ, List.set_cons_zero, List.set_cons_succ, List.length_nil, List.drop_nil, List.map_cons, List.map_nil, List.append_nil, Nat.not_lt_zero, decide_true, decide_false, true_and, and_self]
  refine run_ok tok 400 _ _ ?_; simp only [↓reduceIte, run_opsNil, run_op, run_opT, run_ret, dop, ev, ofV, ofLeaf, put, yield, dBin, pureP, ↓sel_true, ↓sel_false, List.getD_cons_zero, List.getD_cons_succ, List.set_cons_zero, List.set_cons_succ, Option.map_some, Option.bind_some, List.getElem?_toArray, List.getElem?_cons_zero, List.getElem?_cons_succ, Bool.false_eq_true, true_and]
  refine ⟨fun h => ?_, fun h => ?_⟩ <;> simp only [decide_eq_true_eq, decide_eq_false_iff_not] at h
  · refine ⟨⟨h.1, by simp [IntKind.bits]; omega⟩, Out.of [] ?_⟩
    simp [outP, outOf, resL, idTo, noW, fstNodup, cV, cE, cL, cView, Ent.w, hasI, h]
  · refine Out.of [] ?_
    simp [outP, outOf, resL, idTo, noW, fstNodup, cV, cE, cL, cView, Ent.w, hasI, h]
end Go.Proofs.YtaklcaejeaiagaaE
