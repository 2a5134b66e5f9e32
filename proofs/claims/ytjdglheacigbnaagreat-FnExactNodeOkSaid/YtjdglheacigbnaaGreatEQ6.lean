/- A part of the proof of a law of the given program: contracts of functions. No condition of its own. -/
import Derived.Test.YtjdglheacigbnaaGreatEQ4
namespace Go.Proofs.YtjdglheacigbnaaGreatE.R
open Go.Proofs
set_option maxRecDepth 100000
abbrev row1 (a : Nat → Int) : Nat → List DV := fun i => [.i64 (a i)]
abbrev row2 (a b : Nat → Int) : Nat → List DV := fun i => [.i64 (a i), .i64 (b i)]
def lft (l n : Int) : Int := if IntKind.i64.wrap (l - n) < 0 then -1 else IntKind.i64.wrap (l - n)
theorem lft_nn {l : Int} {n : Nat} (hl : 0 ≤ l ∧ l ≤ 1048576) (hn : n ≤ 9223372036854775807) (h : ¬ lft l n < 0) : n ≤ 1048576 ∧ (0 ≤ lft l n ∧ lft l n ≤ 1048576) := by
  unfold lft at *
  have hw : IntKind.i64.wrap (l - n) = l - n := by rw [IntKind.wrap_i64]; omega
  rw [hw] at h ⊢
  by_cases h0 : l - (n : Int) < 0
  · rw [if_pos h0] at h; omega
  · rw [if_neg h0]; omega
theorem t20 (n : Nat) (l : Int) : Tri Tryz.prog 20 [.sl 0 0 0 n 0, .i64 l] [none] (.i64 (lft l n)) [none] := by
  refine Tri.of tok Tryz.func20 rfl ?_; simp only [Tryz.ntmps20, Tryz.results20, List.length_cons, List.length_nil, Nat.reduceAdd, Nat.reduceSub, List.replicate_succ, List.replicate_zero, List.cons_append, List.nil_append]; refine run_ok tok 400 _ _ ?_; simp only [↓reduceIte, run_opsNil, run_op, run_skip, run_seq, run_cond, run_ret, run_region, dop, ev, ofV, ofLeaf, put, told, dBin, dLen, dBuiltin, pureP, pureO, tab, List.getD_cons_zero, List.getD_cons_succ, List.set_cons_zero, List.set_cons_succ, Option.map_some, true_and, List.map_cons, List.map_nil]
  refine ⟨fun h => ?_, fun h => ?_⟩ <;> try simp only [decide_eq_true_eq, decide_eq_false_iff_not] at h
  · refine Out.of [(0, 0)] ?_; simp (config := {contextual := true}) [outP, outOf, resL, idTo, noW, fstNodup, cV, cE, cL, cView, cEnt, Ent.w, lft, h]
  · refine Out.of [(0, 0)] ?_; simp (config := {contextual := true}) [outP, outOf, resL, idTo, noW, fstNodup, cV, cE, cL, cView, cEnt, Ent.w, lft, h]
theorem t36 (n : Nat) (hn : n ≤ 1048576) (a : Nat → Int) : Tri Tryz.prog 36 [.sl 0 0 0 n 0] [some (.one false (.arr 1 n (row1 a)))]
   (.sl 1 0 0 n n) [some (.one false (.arr 1 n (row1 a))), some (.one true (.arr 1 n (row1 a)))] := by
  refine Tri.of tok Tryz.func36 rfl ?_; simp only [Tryz.ntmps36, Tryz.results36, List.length_cons, List.length_nil, Nat.reduceAdd, Nat.reduceSub, List.replicate_succ, List.replicate_zero, List.cons_append, List.nil_append]; refine run_ok tok 400 _ _ ?_; simp only [run_opsNil, run_op, run_seq, run_block, run_region, run_loop, dop, ev, ofV, ofLeaf, put, dLen, dBuiltin, dMake, newRow1, pureO, tab, List.getD_cons_zero, List.getD_cons_succ, List.set_cons_zero, List.set_cons_succ, Option.map_some, true_and, List.length_cons, List.length_nil, List.cons_append, List.nil_append, List.map_cons, List.map_nil, Nat.zero_add, Int.toNat_natCast]
  refine ⟨by omega, ?_⟩
  refine D.loopI (fun k : Nat => ⟨rg 22 [(0, .sl 0 0 0 n 0), (3, .sl 1 0 0 n n), (4, .i64 k)], [some (.one false (.arr 1 n (row1 a))), some (.one true (.arr 1 n fun i => if i < k then [.i64 (a i)] else [.i64 0]))]⟩) (fun k => k ≤ n) (fun k => n - k) 0 [(0, 0), (1, 0)] (Nat.zero_le _) ?_ ?_
  · simp [idTo, noW, fstNodup, cV, cE, cL, cLs, cVs, cView, cEnt, cRow, look, Row.z, Row.n, Row.at, Ent.w, Ent.m, Ent.row, lessP, rg, List.replicate_succ]
  · intro k hk
    simp only [rg, List.replicate_succ, List.replicate_zero, List.set_cons_zero, List.set_cons_succ]
    refine run_ok tok 400 _ _ ?_; simp only [↓reduceIte, run_blk, run_back, run_opsNil, run_op, run_skip, run_seq, run_block, run_cond, run_exit, run_ret, run_region, dop, ev, ofV, ofLeaf, put, told, exitT, dBin, dIndexAddr, dLen, dBuiltin, dLoad, dStore, splice, cellsOf, DV.leaf, Row.z, Row.n, Row.at, Row.upd, Ent.w, Ent.m, Ent.row, Ent.upd, look, pureP, pureO, tab, TK.agg, List.getD_cons_zero, List.getD_cons_succ, List.set_cons_zero, List.set_cons_succ, Option.map_some, Option.join_some, List.getElem?_cons_zero, List.getElem?_cons_succ, Bool.false_eq_true, true_and, and_true, List.length_cons, List.length_nil, List.nil_append, List.append_nil, List.drop_zero, List.drop_succ_cons, List.drop_nil, List.take_zero, List.take_succ_cons, List.take_nil, List.headD_cons, List.map_cons, List.map_nil, List.all_cons, List.all_nil, Bool.and_self, Nat.lt_irrefl, Nat.reduceLeDiff, Nat.lt_add_one, or_true, Nat.zero_add, Int.toNat_natCast]
    refine ⟨fun h => ?_, fun h => ?_⟩ <;> try simp only [decide_eq_true_eq, decide_eq_false_iff_not] at h
    · refine ⟨⟨by omega, by omega⟩, by omega, ?_⟩
      refine ⟨⟨by omega, by omega⟩, by omega, k + 1, [(0, 0), (1, 0)], by omega, by omega, ?_⟩
      have hw : IntKind.i64.wrap ((k : Int) + 1) = ((k + 1 : Nat) : Int) := by rw [IntKind.wrap_i64]; omega
      simp [idTo, noW, fstNodup, cV, cE, cL, cLs, cVs, cView, cEnt, cRow, look, Row.z, Row.n, Row.at, Ent.w, Ent.m, Ent.row, lessP, hw]
      intro i hi
      refine ⟨hi, ?_⟩
      rcases Nat.lt_trichotomy i k with h | h | h
      · simp [h, Nat.ne_of_lt h, Nat.lt_succ_of_lt h, cLs, cL]
      · simp [h, cLs, cL]
      · rw [if_neg (by omega), if_neg (by omega), if_neg (by omega)]; simp [cLs, cL]
    · refine Out.of [(0, 0), (1, 0)] ?_
      obtain rfl : k = n := by omega
      simp (config := {contextual := true}) [outP, outOf, resL, idTo, noW, fstNodup, cV, cE, cL, cLs, cView, cEnt, cRow, look, Row.z, Row.n, Row.at, Ent.w, Ent.m, Ent.row]
theorem t54 (n p q : Nat) (hn : n ≤ 1048576) (a : Nat → Int) : Tri Tryz.prog 54 [.sl 0 0 0 n p, .sl 1 0 0 n q] [some (.one false (.arr 1 n (row1 a))), some (.one false (.arr 1 n (row1 a)))] (.bool true) [some (.one false (.arr 1 n (row1 a))), some (.one false (.arr 1 n (row1 a)))] := by
  refine Tri.of tok Tryz.func54 rfl ?_; simp only [Tryz.ntmps54, Tryz.results54, List.length_cons, List.length_nil, Nat.reduceAdd, Nat.reduceSub, List.replicate_succ, List.replicate_zero, List.cons_append, List.nil_append]; refine run_ok tok 400 _ _ ?_; simp only [↓reduceIte, run_opsNil, run_op, run_skip, run_seq, run_block, run_cond, run_ret, run_region, run_loop, dop, ev, ofV, ofLeaf, put, told, dBin, dLen, dBuiltin, pureP, pureO, tab, List.getD_cons_zero, List.getD_cons_succ, List.set_cons_zero, List.set_cons_succ, Option.map_some, true_and, List.map_cons, List.map_nil]
  simp only [ne_eq, not_true_eq_false, decide_false, sel_false]
  refine D.loopI (fun k : Nat => ⟨rg 26 [(0, .sl 0 0 0 n p), (1, .sl 1 0 0 n q), (5, .i64 k)], [some (.one false (.arr 1 n (row1 a))), some (.one false (.arr 1 n (row1 a)))]⟩) (fun k => k ≤ n) (fun k => n - k) 0 [(0, 0), (1, 0)] (Nat.zero_le _) ?_ ?_
  · simp [idTo, noW, fstNodup, cV, cE, cL, cLs, cVs, cView, cEnt, cRow, look, Row.z, Row.n, Row.at, Ent.w, Ent.m, Ent.row, lessP, rg, List.replicate_succ]
  · intro k hk
    simp only [rg, List.replicate_succ, List.replicate_zero, List.set_cons_zero, List.set_cons_succ]
    refine run_ok tok 400 _ _ ?_; simp only [↓reduceIte, run_opsNil, run_op, run_skip, run_seq, run_block, run_cond, run_exit, run_ret, run_region, run_drawn, dop, ev, ofV, ofLeaf, put, told, exitT, dBin, dLen, dBuiltin, pureP, pureO, tab, List.getD_cons_zero, List.getD_cons_succ, List.set_cons_zero, List.set_cons_succ, Option.map_some, true_and, List.map_cons, List.map_nil]
    refine ⟨fun h => ?_, fun h => ?_⟩ <;> try simp only [decide_eq_true_eq, decide_eq_false_iff_not] at h
    · refine D.draw1 (by rfl) [[], [], [0, 1], [0, 1, 2], [], [], [4, 5], [4, 5, 6], [0, 1, 2, 3, 4, 5, 6, 7]] (by simp only [List.length_cons, List.length_nil, Nat.reduceAdd, Nat.reduceLeDiff]) ?_; refine runD_ok (A := [[], [], [0, 1], [0, 1, 2], [], [], [4, 5], [4, 5, 6], [0, 1, 2, 3, 4, 5, 6, 7]]) (ws := []) (n0 := 2) tok 0 _ _ _ _ rfl ?_; simp only [runD_nil, runD_op, obl, newX, wokB, seenOpts, seenV, seenE, seenL, xOf, wX, Wof, upto, maskH, merge, mergeH, Ent.flag, allW, List.contains_nil, List.contains_cons, List.lookup_nil, Bool.or_false, Bool.or_true, Nat.reduceBEq, Nat.sub_self, Nat.le_refl, beq_self_eq_true, and_self, and_true, true_and, ↓reduceIte, dop, ev, put, dBin, dIndexAddr, dLoad, Row.z, Row.n, Row.at, Ent.w, Ent.m, Ent.row, look, pureP, tab, TK.agg, List.getD_cons_zero, List.getD_cons_succ, List.set_cons_zero, List.set_cons_succ, Option.map_some, Option.join_some, List.getElem?_cons_zero, List.getElem?_cons_succ, Bool.false_eq_true, true_and, and_true, List.length_cons, List.length_nil, Nat.reduceAdd, List.cons_append, List.nil_append, List.append_nil, List.drop_zero, List.drop_succ_cons, List.drop_nil, List.take_succ_cons, List.take_nil, List.headD_cons, List.map_nil, List.all_nil, Bool.and_self, Nat.zero_lt_succ, Nat.lt_add_one, or_true, Nat.zero_add, decide_true, Int.toNat_natCast]
      refine ⟨⟨by omega, by omega⟩, by omega, ⟨by omega, by omega⟩, by omega, ?_⟩
      refine ⟨by rfl, ?_⟩
      refine run_ok tok 400 _ _ ?_; simp only [↓reduceIte, run_blk, run_back, run_opsNil, run_op, run_skip, run_seq, run_cond, run_ret, run_region, dop, ev, ofV, ofLeaf, put, told, dBin, pureP, List.getD_cons_zero, List.getD_cons_succ, List.set_cons_zero, List.set_cons_succ, Option.map_some, true_and]
      simp only [ne_eq, not_true_eq_false, decide_false, sel_false]
      refine ⟨k + 1, [(0, 0), (1, 0)], by omega, by omega, ?_⟩
      have hw : IntKind.i64.wrap ((k : Int) + 1) = ((k + 1 : Nat) : Int) := by rw [IntKind.wrap_i64]; omega
      simp (config := {contextual := true}) [idTo, noW, fstNodup, cV, cE, cL, cLs, cVs, cView, cEnt, cRow, look, Row.z, Row.n, Row.at, Ent.w, Ent.m, Ent.row, lessP, hw]
    · refine Out.of [(0, 0), (1, 0)] ?_; simp (config := {contextual := true}) [outP, outOf, resL, idTo, noW, fstNodup, cV, cE, cL, cLs, cView, cEnt, cRow, look, Row.z, Row.n, Row.at, Ent.w, Ent.m, Ent.row]
theorem t54n : Tri Tryz.prog 54 [.nils, .nils] [] (.bool true) [] := by
  refine Tri.of tok Tryz.func54 rfl ?_; simp only [Tryz.ntmps54, Tryz.results54, List.length_cons, List.length_nil, Nat.reduceAdd, Nat.reduceSub, List.replicate_succ, List.replicate_zero, List.cons_append, List.nil_append]; refine run_ok tok 400 _ _ ?_; simp only [↓reduceIte, run_opsNil, run_op, run_skip, run_seq, run_block, run_cond, run_ret, run_region, run_loop, dop, ev, ofV, ofLeaf, put, told, dBin, dLen, dBuiltin, pureP, pureO, tab, List.getD_cons_zero, List.getD_cons_succ, List.set_cons_zero, List.set_cons_succ, Option.map_some, true_and, List.map_cons, List.map_nil]
  simp only [ne_eq, not_true_eq_false, decide_false, sel_false]
  refine D.loopI (fun k : Nat => ⟨rg 26 [(0, .nils), (1, .nils), (5, .i64 0)], []⟩) (fun k => k = 0) (fun k => 0) 0 [] rfl ?_ ?_
  · simp [idTo, noW, fstNodup, cV, cE, cL, cVs, cView, Ent.w, lessP, rg, List.replicate_succ]
  · intro k hk
    simp only [rg, List.replicate_succ, List.replicate_zero, List.set_cons_zero, List.set_cons_succ]
    refine run_ok tok 400 _ _ ?_; simp only [↓reduceIte, run_opsNil, run_op, run_skip, run_seq, run_block, run_cond, run_exit, run_ret, run_region, run_drawn, dop, ev, ofV, ofLeaf, put, told, exitT, dBin, dLen, dBuiltin, pureP, pureO, tab, List.getD_cons_zero, List.getD_cons_succ, List.set_cons_zero, List.set_cons_succ, Option.map_some, true_and, List.map_cons, List.map_nil, Nat.lt_irrefl]
    simp only [decide_false, sel_false, Int.lt_irrefl]
    refine Out.of [] ?_; simp (config := {contextual := true}) [outP, outOf, resL, idTo, noW, fstNodup, cV, cE, cL, cView, Ent.w]
theorem t113 (k s c a o : Int) (x : ByteArray) (l : Int) : Tri Tryz.prog 113 [dvC k s c a o x, .i64 l] [] (.i64 (lft l x.size)) [] := by
  refine Tri.of tok Tryz.func113 rfl ?_; simp only [Tryz.ntmps113, Tryz.results113, List.length_cons, List.length_nil, Nat.reduceAdd, Nat.reduceSub, List.replicate_succ, List.replicate_zero, List.cons_append, List.nil_append]; refine run_ok tok 400 _ _ ?_; simp only [↓reduceIte, run_opsNil, run_op, run_skip, run_seq, run_cond, run_ret, run_region, dop, ev, ofV, ofLeaf, put, told, dBin, dFieldAddr, dLen, dBuiltin, dBox, dLoad, newRow1, cellsOf, DV.leaf, Row.z, Row.n, Row.at, Ent.m, Ent.row, look, pureP, pureO, newP, tab, TK.agg, List.getD_cons_zero, List.getD_cons_succ, List.set_cons_zero, List.set_cons_succ, Option.map_some, Option.join_some, List.getElem?_cons_zero, List.getElem?_cons_succ, Bool.false_eq_true, true_and, and_true, List.length_cons, List.length_nil, Nat.reduceAdd, List.nil_append, List.drop_zero, List.drop_succ_cons, List.take_succ_cons, List.take_nil, List.headD_cons, List.map_cons, List.map_nil, List.all_cons, List.all_nil, Bool.and_self, Nat.reduceLeDiff, Nat.lt_add_one, or_true, Nat.zero_add, reduceCtorEq]
  refine ⟨fun h => ?_, fun h => ?_⟩ <;> try simp only [decide_eq_true_eq, decide_eq_false_iff_not] at h
  · refine Out.of [] ?_; simp (config := {contextual := true}) [outP, outOf, resL, idTo, noW, fstNodup, cV, cE, cL, cView, Ent.w, lft, h]
  · refine Out.of [] ?_; simp (config := {contextual := true}) [outP, outOf, resL, idTo, noW, fstNodup, cV, cE, cL, cView, Ent.w, lft, h]
theorem t60 (t k s c a o : Int) (x : ByteArray) (l : Int) : Tri Tryz.prog 60 [dvE t k s c a o x, .i64 l] [] (.i64 (if lft l x.size < 0 then -1 else lft l x.size)) [] := by
  refine Tri.of tok Tryz.func60 rfl ?_; simp only [Tryz.ntmps60, Tryz.results60, List.length_cons, List.length_nil, Nat.reduceAdd, Nat.reduceSub, List.replicate_succ, List.replicate_zero, List.cons_append, List.nil_append]; refine run_ok tok 400 _ _ ?_; simp only [↓reduceIte, run_opsNil, run_op, run_seq, run_region, dop, ev, ofV, ofLeaf, put, dFieldAddr, dBox, dLoad, newRow1, cellsOf, DV.leaf, Row.z, Row.n, Row.at, Ent.m, Ent.row, look, pureP, pureO, newP, tab, TK.agg, List.getD_cons_zero, List.getD_cons_succ, List.set_cons_zero, List.set_cons_succ, Option.map_some, Option.join_some, List.getElem?_cons_zero, List.getElem?_cons_succ, true_and, and_true, List.length_cons, List.length_nil, Nat.reduceAdd, List.nil_append, List.drop_zero, List.drop_succ_cons, List.take_succ_cons, List.take_nil, List.all_cons, List.all_nil, Bool.and_self, Nat.reduceLeDiff, Nat.lt_add_one, true_or, Nat.zero_add, reduceCtorEq, Nat.reduceEqDiff]
  refine D.call Tryz.func113 [] (t113 k s c a o x l) ?_; simp only [callP, callOk, wOk, jsOf, noW, fstNodup, allW, sig, renV, renE, renL, afterH, backH, capV, cV, cE, cL, cLs, cVs, cView, ev, Ent.w, put, List.lookup_nil, Bool.or_true, Bool.and_true, List.all_nil, List.getD_cons_zero, List.getD_cons_succ, List.set_cons_zero, List.set_cons_succ, List.length_cons, List.length_nil, List.drop_nil, List.map_cons, List.map_nil, List.append_nil, Nat.zero_add, decide_true, true_and, and_self, Int.reduceNeg]; refine run_ok tok 400 _ _ ?_; simp only [↓reduceIte, run_opsNil, run_op, run_skip, run_seq, run_cond, run_ret, run_region, dop, ev, ofV, ofLeaf, put, told, dBin, pureP, List.getD_cons_zero, List.getD_cons_succ, List.set_cons_zero, List.set_cons_succ, Option.map_some, true_and]
  refine ⟨fun h => ?_, fun h => ?_⟩ <;> try simp only [decide_eq_true_eq, decide_eq_false_iff_not] at h
  · refine Out.of [] ?_; simp (config := {contextual := true}) [outP, outOf, resL, idTo, noW, fstNodup, cV, cE, cL, cView, Ent.w, h]
  · refine Out.of [] ?_; simp (config := {contextual := true}) [outP, outOf, resL, idTo, noW, fstNodup, cV, cE, cL, cView, Ent.w, h]
def sz1 (l : Int) (x : ByteArray) : Int := if lft l x.size < 0 then -1 else lft l x.size
def szS (l : Int) (x : Nat → ByteArray) : Nat → Int
  | 0 => l
  | i + 1 => if szS l x i < 0 then -1 else if sz1 (szS l x i) (x i) < 0 then -1 else sz1 (szS l x i) (x i)
theorem szS_neg (l : Int) (x : Nat → ByteArray) {i : Nat} (h : szS l x (i + 1) < 0) : ∀ j, i + 1 ≤ j → szS l x j = -1
  | 0, hj => by omega
  | j + 1, hj => by
    by_cases hij : i = j
    · subst hij
      simp only [szS] at h ⊢
      split
      · rfl
      · split
        · rfl
        · rename_i h1 h2; simp only [h1, h2, if_false] at h
    · have := szS_neg l x h j (by omega)
      simp only [szS, this]
      rfl
def szE (l : Int) (n : Nat) (x : Nat → ByteArray) : Int := if IntKind.i64.wrap (l - n) < 0 then -1 else szS (IntKind.i64.wrap (l - n)) x n
theorem szS_nn {l : Int} {x : Nat → ByteArray} (hl : l ≤ 1048576) : ∀ {n : Nat}, (∀ i, i < n → (x i).size ≤ 9223372036854775807) → ¬ szS l x n < 0 → 0 ≤ szS l x n ∧ szS l x n ≤ 1048576
  | 0, _, h => by simp only [szS] at *; omega
  | n + 1, hx, h => by
    simp only [szS] at *
    by_cases h1 : szS l x n < 0
    · rw [if_pos h1] at h; omega
    rw [if_neg h1] at h ⊢
    have ih := szS_nn hl (fun i hi => hx i (by omega)) h1
    by_cases h2 : sz1 (szS l x n) (x n) < 0
    · rw [if_pos h2] at h; omega
    rw [if_neg h2] at h ⊢
    unfold sz1 at *
    by_cases h3 : lft (szS l x n) (x n).size < 0
    · rw [if_pos h3] at h2; omega
    rw [if_neg h3] at h2 ⊢
    exact (lft_nn ih (hx n (by omega)) h3).2
theorem szE_nn {l : Int} {n : Nat} {x : Nat → ByteArray} (hl : 0 ≤ l ∧ l ≤ 1048576) (hn : n ≤ 9223372036854775807) (hx : ∀ i, i < n → (x i).size ≤ 9223372036854775807) (h : ¬ szE l n x < 0) : n ≤ 1048576 ∧ (0 ≤ szE l n x ∧ szE l n x ≤ 1048576) := by
  unfold szE at *
  have hw : IntKind.i64.wrap (l - n) = l - n := by rw [IntKind.wrap_i64]; omega
  rw [hw] at h ⊢
  by_cases h0 : l - (n : Int) < 0
  · rw [if_pos h0] at h; omega
  · rw [if_neg h0] at h ⊢
    exact ⟨by omega, szS_nn (by omega) hx h⟩
set_option maxHeartbeats 4000000 in
theorem t19 (n : Nat) (hn9 : n ≤ 9223372036854775807) (l : Int) (e : EF) : Tri Tryz.prog 19 [.sl 0 0 0 n 0, .i64 l] [some (.one false (.arr 7 n (rowE e)))] (.i64 (szE l n e.x)) [some (.one false (.arr 7 n (rowE e)))] := by
  refine Tri.of tok Tryz.func19 rfl ?_; simp only [Tryz.ntmps19, Tryz.results19, List.length_cons, List.length_nil, Nat.reduceAdd, Nat.reduceSub, List.replicate_succ, List.replicate_zero, List.cons_append, List.nil_append]; refine run_ok tok 400 _ _ ?_; simp only [↓reduceIte, run_opsNil, run_op, run_skip, run_seq, run_block, run_cond, run_ret, run_region, run_loop, dop, ev, ofV, ofLeaf, put, told, dBin, dLen, dBuiltin, pureP, pureO, tab, List.getD_cons_zero, List.getD_cons_succ, List.set_cons_zero, List.set_cons_succ, Option.map_some, true_and, List.map_cons, List.map_nil]
  refine ⟨fun h => ?_, fun h => ?_⟩ <;> try simp only [decide_eq_true_eq, decide_eq_false_iff_not] at h
  · refine Out.of [(0, 0)] ?_; simp (config := {contextual := true}) [outP, outOf, resL, idTo, noW, fstNodup, cV, cE, cL, cLs, cView, cEnt, cRow, look, Row.z, Row.n, Row.at, Ent.w, Ent.m, Ent.row, szE, h]
  have hz : szE l n e.x = szS (IntKind.i64.wrap (l - n)) e.x n := by unfold szE; rw [if_neg h]
  rw [hz]
  generalize IntKind.i64.wrap (l - n) = l1 at h ⊢
  refine D.loopI (fun k : Nat => ⟨rg 27 [(0, .sl 0 0 0 n 0), (1, .i64 (szS l1 e.x k)), (5, .i64 k)], [some (.one false (.arr 7 n (rowE e)))]⟩) (fun k => k ≤ n ∧ ¬ szS l1 e.x k < 0) (fun k => n - k) 0 [(0, 0)] ⟨Nat.zero_le _, h⟩ ?_ ?_
  · simp [idTo, noW, fstNodup, cV, cE, cL, cLs, cVs, cView, cEnt, cRow, look, Row.z, Row.n, Row.at, Ent.w, Ent.m, Ent.row, lessP, rg, List.replicate_succ, szS]
  intro k ⟨hk, hn⟩
  simp only [rg, List.replicate_succ, List.replicate_zero, List.set_cons_zero, List.set_cons_succ]
  by_cases q : k < n
  · have hw : IntKind.i64.wrap ((k : Int) + 1) = ((k + 1 : Nat) : Int) := by rw [IntKind.wrap_i64]; omega
    have hs : szS l1 e.x (k + 1) = if sz1 (szS l1 e.x k) (e.x k) < 0 then -1 else sz1 (szS l1 e.x k) (e.x k) := by simp only [szS]; rw [if_neg hn]
    have hneg := fun h => szS_neg l1 e.x (i := k) h n (by omega)
    refine run_ok tok 400 _ _ ?_; simp only [↓reduceIte, run_opsNil, run_op, run_skip, run_seq, run_block, run_cond, run_exit, run_ret, run_region, dop, ev, put, told, exitT, dBin, dIndexAddr, dLen, dBuiltin, dLoad, Row.z, Row.n, Row.at, Ent.m, Ent.row, look, pureP, pureO, tab, TK.agg, List.getD_cons_zero, List.getD_cons_succ, List.set_cons_zero, List.set_cons_succ, Option.map_some, Option.join_some, List.getElem?_cons_zero, true_and, and_true, List.drop_zero, List.take_succ_cons, List.take_nil, List.map_cons, List.map_nil, Nat.reduceLeDiff, Nat.lt_add_one, true_or, Nat.zero_add, Int.toNat_natCast, Nat.reduceEqDiff]
    refine ⟨fun q0 => ?_, fun q0 => ?_⟩ <;> try simp only [decide_eq_true_eq, decide_eq_false_iff_not] at q0
    · refine ⟨⟨by omega, by omega⟩, q, ?_⟩
      have hT := t60 (e.t k) (e.k k) (e.s k) (e.c k) (e.a k) (e.o k) (e.x k) (szS l1 e.x k)
      have h1 : (if lft (szS l1 e.x k) (e.x k).size < 0 then -1 else lft (szS l1 e.x k) (e.x k).size) = sz1 (szS l1 e.x k) (e.x k) := rfl
      rw [h1] at hT
      refine D.call Tryz.func60 [] (hT) ?_; simp only [callP, callOk, wOk, jsOf, noW, fstNodup, allW, sig, renV, renE, renL, afterH, backH, capV, cV, cE, cL, cLs, cVs, cView, ev, Ent.w, put, List.lookup_nil, Bool.or_true, Bool.and_true, List.all_nil, List.getD_cons_zero, List.getD_cons_succ, List.set_cons_zero, List.set_cons_succ, List.length_cons, List.length_nil, List.drop_nil, List.map_cons, List.map_nil, List.append_nil, Nat.zero_add, decide_true, true_and, and_self, Int.reduceNeg]; refine run_ok tok 400 _ _ ?_; simp only [↓reduceIte, run_blk, run_back, run_opsNil, run_op, run_skip, run_seq, run_cond, run_ret, run_region, dop, ev, ofV, ofLeaf, put, told, dBin, pureP, List.getD_cons_zero, List.getD_cons_succ, List.set_cons_zero, List.set_cons_succ, Option.map_some, true_and]
      refine ⟨fun q1 => ?_, fun q1 => ?_⟩ <;> try simp only [decide_eq_true_eq, decide_eq_false_iff_not] at q1
      · have hb := hneg (by rw [hs, if_pos q1]; omega)
        refine Out.of [(0, 0)] ?_; simp (config := {contextual := true}) [outP, outOf, resL, idTo, noW, fstNodup, cV, cE, cL, cLs, cView, cEnt, cRow, look, Row.z, Row.n, Row.at, Ent.w, Ent.m, Ent.row, hb]
      · rw [if_neg q1] at hs
        refine ⟨k + 1, [(0, 0)], ⟨by omega, by rw [hs]; exact q1⟩, by omega, ?_⟩
        simp (config := {contextual := true}) [idTo, noW, fstNodup, cV, cE, cL, cLs, cVs, cView, cEnt, cRow, look, Row.z, Row.n, Row.at, Ent.w, Ent.m, Ent.row, lessP, hw, hs]
    · omega
  · obtain rfl : k = n := by omega
    refine run_ok tok 400 _ _ ?_; simp only [↓reduceIte, run_opsNil, run_op, run_skip, run_seq, run_block, run_cond, run_exit, run_ret, run_region, dop, ev, put, told, exitT, dBin, dIndexAddr, dLen, dBuiltin, dLoad, Row.z, Row.n, Row.at, Ent.m, Ent.row, look, pureP, pureO, tab, TK.agg, List.getD_cons_zero, List.getD_cons_succ, List.set_cons_zero, List.set_cons_succ, Option.map_some, Option.join_some, List.getElem?_cons_zero, true_and, and_true, List.drop_zero, List.take_succ_cons, List.take_nil, List.map_cons, List.map_nil, Nat.lt_irrefl, Nat.reduceLeDiff, Nat.lt_add_one, true_or, Nat.zero_add, Int.toNat_natCast, Nat.reduceEqDiff]
    refine ⟨fun q0 => ?_, fun q0 => ?_⟩ <;> try simp only [decide_eq_true_eq, decide_eq_false_iff_not] at q0
    · omega
    refine Out.of [(0, 0)] ?_; simp (config := {contextual := true}) [outP, outOf, resL, idTo, noW, fstNodup, cV, cE, cL, cLs, cView, cEnt, cRow, look, Row.z, Row.n, Row.at, Ent.w, Ent.m, Ent.row]
end Go.Proofs.YtjdglheacigbnaaGreatE.R
