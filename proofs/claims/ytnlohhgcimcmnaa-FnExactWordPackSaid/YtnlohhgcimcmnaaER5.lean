/- A part of the proof of a law of the given program: contracts of functions. No condition of its own. -/
import Derived.Test.YtnlohhgcimcmnaaER4
namespace Go.Proofs.YtnlohhgcimcmnaaE
open Go.Proofs
set_option maxRecDepth 100000
/-! ### the texts that stand for numbers -/
def dg : Nat → Nat → ByteArray → ByteArray
  | 0, _, o => o
  | f + 1, k, o => if k = 0 then o else dg f (k / 10) (strN [((48 + k % 10 : Nat) : Int)] ++ o)
theorem dg_zero (f : Nat) (o : ByteArray) : dg f 0 o = o := by cases f <;> simp [dg]
def markT (k : Nat) : ByteArray := ⟨#[109]⟩ ++ dg 11 k noT
theorem strN1 (n : Int) : (strN [n]).size = 1 := by simp [strN]
set_option maxHeartbeats 4000000 in
theorem t72 (k : Nat) (h0 : 0 < k) (hk : k ≤ 10000000000) : Tri Try.prog 72 [.i64 k] [] (.str (markT k)) [] := by
  refine Tri.of tok Try.func72 rfl ?_; simp only [Try.ntmps72, Try.results72, List.length_cons, List.length_nil, Nat.reduceAdd, Nat.reduceSub, List.replicate_succ, List.replicate_zero, List.cons_append, List.nil_append]; refine run_ok tok 400 _ _ ?_; simp only [↓reduceIte, run_opsNil, run_op, run_skip, run_seq, run_block, run_cond, run_ret, run_region, run_loop, dop, ev, ofV, ofLeaf, put, told, dBin, pureP, List.getD_cons_zero, List.getD_cons_succ, List.set_cons_zero, List.set_cons_succ, Option.map_some, true_and]
  refine ⟨fun q => ?_, fun q => ?_⟩ <;> try simp only [decide_eq_true_eq, decide_eq_false_iff_not] at q
  · omega
  refine D.loopI (ι := Nat × Nat × ByteArray) (fun s => ⟨rg 20 [(0, .i64 s.2.1), (3, .str s.2.2)], []⟩) (fun s => s.2.1 < 10 ^ s.1 ∧ s.1 ≤ 11 ∧ dg s.1 s.2.1 s.2.2 = dg 11 k noT ∧ s.2.2.size + s.1 ≤ 11) (fun s => s.2.1) (11, k, noT) [] ⟨by simp only; omega, by simp only; omega, rfl, by show (0 : Nat) + 11 ≤ 11; omega⟩ ?_ ?_
  · simp (config := {contextual := true}) [idTo, noW, fstNodup, cV, cE, cL, cVs, cView, Ent.w, lessP, rg, List.replicate_succ]
  rintro ⟨f, j, o⟩ ⟨hj, hf, hd, hs⟩
  simp only at hj hf hd hs
  simp only [rg, List.replicate_succ, List.replicate_zero, List.set_cons_zero, List.set_cons_succ]
  refine run_ok tok 400 _ _ ?_; simp only [↓reduceIte, run_opsNil, run_op, run_skip, run_seq, run_block, run_cond, run_exit, run_ret, run_region, dop, ev, ofV, ofLeaf, put, told, exitT, dBin, dConv, dBuildSlice, dElems, newRow1, cellsOf, DV.leaf, pureP, pureO, newP, tab, List.getD_cons_zero, List.getD_cons_succ, List.set_cons_zero, List.set_cons_succ, Option.map_some, Option.map_none, true_and, and_true, List.length_cons, List.length_nil, List.nil_append, List.map_cons, List.map_nil, List.all_cons, List.all_nil, Bool.and_self, Nat.reduceLeDiff, Nat.lt_add_one, Nat.zero_add, List.replicate_succ, List.replicate_zero, Nat.reduceMul]
  refine ⟨fun q1 => ?_, fun q1 => ?_⟩ <;> try simp only [decide_eq_true_eq, decide_eq_false_iff_not] at q1
  · have hm : (j : Int).tmod 10 = ((j % 10 : Nat) : Int) := (Int.ofNat_tmod j 10).symm
    have hq : (j : Int).tdiv 10 = ((j / 10 : Nat) : Int) := (Int.ofNat_tdiv j 10).symm
    have hc : IntKind.u8.wrap (IntKind.i64.wrap (48 + ((j % 10 : Nat) : Int))) = ((48 + j % 10 : Nat) : Int) := by rw [IntKind.wrap_i64, IntKind.wrap_u8]; omega
    obtain ⟨f, rfl⟩ : ∃ g, f = g + 1 := ⟨f - 1, by
      rcases Nat.eq_zero_or_pos f with h | h
      · subst h; simp at hj; omega
      · omega⟩
    simp only [hm, hc]
    refine ⟨by omega, ?_⟩
    refine D.op rfl (OpT.toStr tok rfl rfl rfl rfl rfl (by exact Nat.zero_lt_one) rfl (Nat.le_refl _) [((48 + j % 10 : Nat) : Int)] rfl (fun i hi => by (obtain rfl : i = 0 := by simp at hi; omega); rfl)) ?_
    simp only [put, List.set_cons_zero, List.set_cons_succ]
    refine run_ok tok 400 _ _ ?_; simp only [↓reduceIte, run_blk, run_back, run_opsNil, run_op, run_region, dop, ev, ofV, ofLeaf, put, dBin, pureP, List.getD_cons_zero, List.getD_cons_succ, List.set_cons_zero, List.set_cons_succ, Option.map_some, true_and]
    have hsz : (strN [((48 + j % 10 : Nat) : Int)] ++ o).size = 1 + o.size := by rw [ByteArray.size_append, strN1]
    have hd2 : dg (f + 1) j o = dg f (j / 10) (strN [((48 + j % 10 : Nat) : Int)] ++ o) := by simp only [dg]; rw [if_neg (by omega)]
    have hq2 : IntKind.i64.wrap ((j / 10 : Nat) : Int) = ((j / 10 : Nat) : Int) := by clear hd2 hsz hd; rw [IntKind.wrap_i64]; have := Nat.div_le_self j 10; have hj2 : j < 10 ^ 11 := Nat.lt_of_lt_of_le hj (Nat.pow_le_pow_right (by omega) hf); omega
    refine ⟨by rw [strN1]; omega, by omega, (f, j / 10, strN [((48 + j % 10 : Nat) : Int)] ++ o), [], ⟨by simp only; rw [Nat.pow_succ] at hj; omega, by simp only; omega, by rw [← hd, hd2], by simp only [hsz]; omega⟩, by simp only; omega, ?_⟩
    simp only [hq, hq2]
    simp (config := {contextual := true}) [idTo, noW, fstNodup, cV, cE, cL, cVs, cView, Ent.w, lessP]
  · obtain rfl : j = 0 := by omega
    have hx : markT k = ⟨#[109]⟩ ++ o := by unfold markT; rw [← hd, dg_zero]
    refine ⟨by have : (⟨#[109]⟩ : ByteArray).size = 1 := rfl
               omega, ?_⟩
    rw [hx]
    refine Out.of [] ?_; simp (config := {contextual := true}) [outP, outOf, resL, idTo, noW, fstNodup, cV, cE, cL, cView, Ent.w]
/-- The columns of marked entries, and of marked commands. -/
abbrev mkE (k : Nat) : EF := ⟨fun i => (k + 7 * i : Nat), fun i => (k + 7 * i + 1 : Nat), fun i => (k + 7 * i + 2 : Nat), fun i => (k + 7 * i + 3 : Nat), fun i => (k + 7 * i + 4 : Nat), fun i => (k + 7 * i + 5 : Nat), fun i => markT (k + 7 * i + 6)⟩
abbrev mkC (k : Nat) : EF := ⟨fun _ => 0, fun i => (k + 6 * i : Nat), fun i => (k + 6 * i + 1 : Nat), fun i => (k + 6 * i + 2 : Nat), fun i => (k + 6 * i + 3 : Nat), fun i => (k + 6 * i + 4 : Nat), fun i => markT (k + 6 * i + 5)⟩
set_option maxHeartbeats 8000000 in
theorem t66 (n p : Nat) (hn : n ≤ 1048576) (k : Nat) (hk0 : 0 < k) (hk : k ≤ 67108864) (e : EF) : Tri Try.prog 66 [.sl 0 0 0 n p, .i64 k] [some (.one true (.arr 7 n (rowE e)))]
   (.i64 (k + 7 * n : Nat)) [some (.one true (.arr 7 n (rowE (mkE k))))] := by
  refine Tri.of tok Try.func66 rfl ?_; simp only [Try.ntmps66, Try.results66, List.length_cons, List.length_nil, Nat.reduceAdd, Nat.reduceSub, List.replicate_succ, List.replicate_zero, List.cons_append, List.nil_append]; refine run_ok tok 400 _ _ ?_; simp only [run_opsNil, run_op, run_seq, run_block, run_region, run_loop, dop, ev, ofV, ofLeaf, put, List.set_cons_zero, List.set_cons_succ, true_and]
  refine D.loopI (fun i : Nat => ⟨rg 69 [(0, .sl 0 0 0 n p), (1, .i64 (k + 7 * i : Nat)), (5, .i64 i)], [some (.one true (.arr 7 n fun j => if j < i then [.i64 (k + 7 * j : Nat), .i64 (k + 7 * j + 1 : Nat), .i64 (k + 7 * j + 2 : Nat), .i64 (k + 7 * j + 3 : Nat), .i64 (k + 7 * j + 4 : Nat), .i64 (k + 7 * j + 5 : Nat), .str (markT (k + 7 * j + 6))] else [.i64 (e.t j), .i64 (e.k j), .i64 (e.s j), .i64 (e.c j), .i64 (e.a j), .i64 (e.o j), .str (e.x j)]))]⟩) (fun i => i ≤ n) (fun i => n - i) 0 [(0, 0)] (Nat.zero_le _) ?_ ?_
  · simp (config := {contextual := true}) [idTo, noW, fstNodup, cV, cE, cL, cLs, cVs, cView, cEnt, cRow, look, Row.z, Row.n, Row.at, Ent.w, Ent.m, Ent.row, lessP, rg, List.replicate_succ]
  · intro i hi
    simp only [rg, List.replicate_succ, List.replicate_zero, List.set_cons_zero, List.set_cons_succ]
    refine run_ok tok 400 _ _ ?_; simp only [↓reduceIte, run_opsNil, run_op, run_skip, run_seq, run_block, run_cond, run_exit, run_ret, run_region, dop, ev, ofV, ofLeaf, put, told, exitT, dBin, dFieldAddr, dIndexAddr, dLen, dBuiltin, dStore, splice, cellsOf, DV.leaf, Row.z, Row.n, Row.at, Row.upd, Ent.w, Ent.m, Ent.row, Ent.upd, look, pureP, pureO, tab, List.getD_cons_zero, List.getD_cons_succ, List.set_cons_zero, List.set_cons_succ, Option.map_some, Option.join_some, List.getElem?_cons_zero, List.getElem?_cons_succ, true_and, and_true, List.length_cons, List.length_nil, Nat.reduceAdd, List.cons_append, List.nil_append, List.drop_zero, List.drop_succ_cons, List.take_zero, List.take_succ_cons, List.map_cons, List.map_nil, List.all_cons, List.all_nil, Bool.and_self, Nat.lt_irrefl, Nat.reduceLeDiff, Nat.lt_add_one, Nat.add_zero, Nat.zero_add, Int.toNat_natCast, reduceCtorEq]
    refine ⟨fun h => ?_, fun h => ?_⟩ <;> try simp only [decide_eq_true_eq, decide_eq_false_iff_not] at h
    · have hw : IntKind.i64.wrap ((i : Int) + 1) = ((i + 1 : Nat) : Int) := by rw [IntKind.wrap_i64]; omega
      have hw1 : IntKind.i64.wrap (((k + 7 * i : Nat) : Int) + 1) = ((k + 7 * i + 1 : Nat) : Int) := by rw [IntKind.wrap_i64]; omega
      have hw2 : IntKind.i64.wrap (((k + 7 * i + 1 : Nat) : Int) + 1) = ((k + 7 * i + 2 : Nat) : Int) := by rw [IntKind.wrap_i64]; omega
      have hw3 : IntKind.i64.wrap (((k + 7 * i + 2 : Nat) : Int) + 1) = ((k + 7 * i + 3 : Nat) : Int) := by rw [IntKind.wrap_i64]; omega
      have hw4 : IntKind.i64.wrap (((k + 7 * i + 3 : Nat) : Int) + 1) = ((k + 7 * i + 4 : Nat) : Int) := by rw [IntKind.wrap_i64]; omega
      have hw5 : IntKind.i64.wrap (((k + 7 * i + 4 : Nat) : Int) + 1) = ((k + 7 * i + 5 : Nat) : Int) := by rw [IntKind.wrap_i64]; omega
      have hw6 : IntKind.i64.wrap (((k + 7 * i + 5 : Nat) : Int) + 1) = ((k + 7 * i + 6 : Nat) : Int) := by rw [IntKind.wrap_i64]; omega
      have hw7 : IntKind.i64.wrap (((k + 7 * i + 6 : Nat) : Int) + 1) = ((k + 7 * (i + 1) : Nat) : Int) := by rw [IntKind.wrap_i64]; omega
      refine ⟨⟨by omega, by omega⟩, by omega, ⟨by omega, by omega⟩, by omega, ⟨by omega, by omega⟩, by omega, ⟨by omega, by omega⟩, by omega, ⟨by omega, by omega⟩, by omega, ⟨by omega, by omega⟩, by omega, ?_⟩
      simp only [hw1, hw2, hw3, hw4, hw5, hw6]
      refine D.call Try.func72 [] (t72 (k + 7 * i + 6) (by omega) (by omega)) ?_; simp only [callP, callOk, wOk, jsOf, noW, fstNodup, allW, sig, renV, renE, renL, afterH, backH, capV, cV, cE, cL, cVs, cView, ev, Ent.w, put, List.lookup_nil, Bool.or_true, Bool.and_true, List.all_nil, List.getD_cons_zero, List.getD_cons_succ, List.set_cons_zero, List.set_cons_succ, List.length_cons, List.length_nil, List.drop_nil, List.map_cons, List.map_nil, List.append_nil, Nat.zero_add, decide_true, true_and, and_self]; refine run_ok tok 400 _ _ ?_; simp only [↓reduceIte, run_blk, run_back, run_opsNil, run_op, run_region, dop, ev, ofV, ofLeaf, put, dBin, dFieldAddr, dIndexAddr, dStore, splice, cellsOf, DV.leaf, Row.z, Row.n, Row.at, Row.upd, Ent.w, Ent.m, Ent.row, Ent.upd, look, pureP, pureO, tab, List.getD_cons_zero, List.getD_cons_succ, List.set_cons_zero, List.set_cons_succ, Option.map_some, Option.join_some, List.getElem?_cons_zero, List.getElem?_cons_succ, true_and, and_true, List.length_cons, List.length_nil, Nat.reduceAdd, List.cons_append, List.nil_append, List.append_nil, List.drop_succ_cons, List.drop_nil, List.take_zero, List.take_succ_cons, List.all_cons, List.all_nil, Bool.and_self, Nat.reduceLeDiff, Nat.lt_add_one, Nat.zero_add, Int.toNat_natCast, reduceCtorEq]
      refine ⟨⟨by omega, by omega⟩, by omega, i + 1, [(0, 0)], by omega, by omega, ?_⟩
      simp only [hw, hw7]
      simp (config := {contextual := true}) [idTo, noW, fstNodup, cV, cE, cL, cVs, cView, cEnt, cRow, look, Row.z, Row.n, Row.at, Ent.w, Ent.m, Ent.row, lessP]
      intro j hj
      rcases Nat.lt_trichotomy j i with h | h | h
      · simp [h, Nat.ne_of_lt h, Nat.lt_succ_of_lt h, cLs, cL]
      · simp [h, cLs, cL]
      · have h1 : ¬ j < i := by omega
        have h2 : ¬ j = i := by omega
        have h3 : ¬ j < i + 1 := by omega
        simp [h1, h2, h3, cLs, cL]
    · refine Out.of [(0, 0)] ?_
      obtain rfl : i = n := by omega
      simp (config := {contextual := true}) [outP, outOf, resL, idTo, noW, fstNodup, cV, cE, cL, cLs, cView, cEnt, cRow, look, Row.z, Row.n, Row.at, Ent.w, Ent.m, Ent.row, mkE]
set_option maxHeartbeats 8000000 in
theorem t68 (n p : Nat) (hn : n ≤ 1048576) (k : Nat) (hk0 : 0 < k) (hk : k ≤ 67108864) : Tri Try.prog 68 [.sl 0 0 0 n p, .i64 k] [some (.one false (.arr 7 n (rowE (mkE k))))]
   (.i64 (k + 7 * n : Nat)) [some (.one false (.arr 7 n (rowE (mkE k))))] := by
  refine Tri.of tok Try.func68 rfl ?_; simp only [Try.ntmps68, Try.results68, List.length_cons, List.length_nil, Nat.reduceAdd, Nat.reduceSub, List.replicate_succ, List.replicate_zero, List.cons_append, List.nil_append]; refine run_ok tok 400 _ _ ?_; simp only [run_opsNil, run_op, run_seq, run_block, run_region, run_loop, dop, ev, ofV, ofLeaf, put, List.set_cons_zero, List.set_cons_succ, true_and]
  refine D.loopI (fun i : Nat => ⟨rg 83 [(0, .sl 0 0 0 n p), (1, .i64 (k + 7 * i : Nat)), (5, .i64 i)], [some (.one false (.arr 7 n fun j => [.i64 (k + 7 * j : Nat), .i64 (k + 7 * j + 1 : Nat), .i64 (k + 7 * j + 2 : Nat), .i64 (k + 7 * j + 3 : Nat), .i64 (k + 7 * j + 4 : Nat), .i64 (k + 7 * j + 5 : Nat), .str (markT (k + 7 * j + 6))]))]⟩) (fun i => i ≤ n) (fun i => n - i) 0 [(0, 0)] (Nat.zero_le _) ?_ ?_
  · simp (config := {contextual := true}) [idTo, noW, fstNodup, cV, cE, cL, cLs, cVs, cView, cEnt, cRow, look, Row.z, Row.n, Row.at, Ent.w, Ent.m, Ent.row, lessP, rg, List.replicate_succ, mkE]
  · intro i hi
    simp only [rg, List.replicate_succ, List.replicate_zero, List.set_cons_zero, List.set_cons_succ]
    refine run_ok tok 400 _ _ ?_; simp only [↓reduceIte, run_opsNil, run_op, run_skip, run_seq, run_block, run_cond, run_exit, run_ret, run_region, run_drawn, dop, ev, ofV, ofLeaf, put, told, exitT, dBin, dFieldAddr, dIndexAddr, dLen, dBuiltin, dLoad, Row.z, Row.n, Row.at, Ent.m, Ent.row, look, pureP, pureO, tab, TK.agg, List.getD_cons_zero, List.getD_cons_succ, List.set_cons_zero, List.set_cons_succ, Option.map_some, Option.join_some, List.getElem?_cons_zero, List.getElem?_cons_succ, Bool.false_eq_true, true_and, and_true, Nat.reduceAdd, List.drop_zero, List.drop_succ_cons, List.take_zero, List.take_succ_cons, List.headD_cons, List.map_cons, List.map_nil, Nat.reduceLeDiff, Nat.lt_add_one, or_true, Nat.add_zero, Nat.zero_add, Int.toNat_natCast, reduceCtorEq]
    refine ⟨fun h => ?_, fun h => ?_⟩ <;> try simp only [decide_eq_true_eq, decide_eq_false_iff_not] at h
    · have hw : IntKind.i64.wrap ((i : Int) + 1) = ((i + 1 : Nat) : Int) := by rw [IntKind.wrap_i64]; omega
      have hw1 : IntKind.i64.wrap (((k + 7 * i : Nat) : Int) + 1) = ((k + 7 * i + 1 : Nat) : Int) := by rw [IntKind.wrap_i64]; omega
      have hw2 : IntKind.i64.wrap (((k + 7 * i + 1 : Nat) : Int) + 1) = ((k + 7 * i + 2 : Nat) : Int) := by rw [IntKind.wrap_i64]; omega
      have hw3 : IntKind.i64.wrap (((k + 7 * i + 2 : Nat) : Int) + 1) = ((k + 7 * i + 3 : Nat) : Int) := by rw [IntKind.wrap_i64]; omega
      have hw4 : IntKind.i64.wrap (((k + 7 * i + 3 : Nat) : Int) + 1) = ((k + 7 * i + 4 : Nat) : Int) := by rw [IntKind.wrap_i64]; omega
      have hw5 : IntKind.i64.wrap (((k + 7 * i + 4 : Nat) : Int) + 1) = ((k + 7 * i + 5 : Nat) : Int) := by rw [IntKind.wrap_i64]; omega
      have hw6 : IntKind.i64.wrap (((k + 7 * i + 5 : Nat) : Int) + 1) = ((k + 7 * i + 6 : Nat) : Int) := by rw [IntKind.wrap_i64]; omega
      have hw7 : IntKind.i64.wrap (((k + 7 * i + 6 : Nat) : Int) + 1) = ((k + 7 * (i + 1) : Nat) : Int) := by rw [IntKind.wrap_i64]; omega
      simp only [hw1, hw2, hw3, hw4, hw5, hw6, ne_eq, not_true_eq_false, decide_false, sel_false]
      refine ⟨⟨by omega, by omega⟩, by omega, ⟨by omega, by omega⟩, by omega, ⟨by omega, by omega⟩, by omega, ⟨by omega, by omega⟩, by omega, ⟨by omega, by omega⟩, by omega, ⟨by omega, by omega⟩, by omega, ?_⟩
      refine D.draw1 (by rfl) [[], [], [0, 1], [0, 1, 2], [0, 1, 2, 3], [0, 1, 2, 3, 4], [], [6], [0, 1, 2, 3, 4, 5, 6, 7]] (by simp only [List.length_cons, List.length_nil, Nat.reduceAdd, Nat.reduceLeDiff]) ?_; refine runD_ok (A := [[], [], [0, 1], [0, 1, 2], [0, 1, 2, 3], [0, 1, 2, 3, 4], [], [6], [0, 1, 2, 3, 4, 5, 6, 7]]) (ws := []) (n0 := 1) tok 0 _ _ _ _ rfl ?_; simp only [runD_op, obl, newX, wokB, seenOpts, seenV, seenE, seenL, xOf, wX, Wof, upto, maskH, merge, mergeH, Ent.flag, allW, List.contains_nil, List.contains_cons, List.lookup_nil, Bool.or_false, Bool.or_true, Nat.reduceBEq, Nat.sub_self, Nat.le_refl, beq_self_eq_true, and_self, and_true, true_and, ↓reduceIte, dop, ev, put, dFieldAddr, dIndexAddr, dLoad, Row.z, Row.n, Row.at, Ent.w, Ent.m, Ent.row, look, pureP, pureO, tab, TK.agg, List.getD_cons_zero, List.getD_cons_succ, List.set_cons_zero, List.set_cons_succ, Option.map_some, Option.join_some, List.getElem?_cons_zero, List.getElem?_cons_succ, Bool.false_eq_true, true_and, and_true, List.length_cons, List.length_nil, Nat.reduceAdd, List.cons_append, List.nil_append, List.append_nil, List.drop_zero, List.drop_succ_cons, List.drop_nil, List.take_succ_cons, List.take_nil, List.headD_cons, List.map_nil, List.all_nil, Bool.and_self, Nat.lt_add_one, or_true, Nat.zero_add, decide_true, Int.toNat_natCast, reduceCtorEq]
      refine ⟨⟨by omega, by omega⟩, by omega, ?_⟩
      refine Dr.call [[], [], [0, 1], [0, 1, 2], [0, 1, 2, 3], [0, 1, 2, 3, 4], [], [6], [0, 1, 2, 3, 4, 5, 6, 7]] [] 1 Try.func72 [] (t72 (k + 7 * i + 6) (by omega) (by omega)) ?_; simp only [↓reduceIte, callP, callOk, wOk, jsOf, noW, fstNodup, allW, sig, renV, renE, renL, afterH, backH, capV, cV, cE, cL, cVs, cView, ev, Ent.w, put, List.lookup_nil, Bool.or_true, Bool.or_false, beq_self_eq_true, List.all_nil, List.getD_cons_zero, List.getD_cons_succ, List.set_cons_zero, List.set_cons_succ, List.length_cons, List.length_nil, List.drop_succ_cons, List.drop_nil, List.map_cons, List.map_nil, List.cons_append, List.nil_append, List.append_nil, Option.map_some, Nat.reduceAdd, Nat.reduceBEq, Nat.zero_add, Nat.le_refl, decide_true, true_and, and_self, Bool.false_eq_true, Int.reduceNeg, obl, newX, wokB, seenOpts, seenV, seenE, seenL, xOf, wX, Wof, upto, maskH, merge, mergeH, Ent.flag, allW, List.contains_nil, List.contains_cons, List.lookup_nil, Bool.or_false, Bool.or_true, Nat.reduceBEq, Nat.sub_self, Nat.le_refl, beq_self_eq_true, and_self, true_and, ↓reduceIte, ev, put, Ent.w, List.getD_cons_zero, List.getD_cons_succ, List.set_cons_zero, List.set_cons_succ, Option.map_some, Bool.false_eq_true, true_and, List.length_cons, List.length_nil, Nat.reduceAdd, List.cons_append, List.nil_append, List.append_nil, List.drop_succ_cons, List.drop_nil, List.map_cons, List.map_nil, List.all_nil, Bool.and_self, Nat.zero_add, decide_true]
      refine runD_ok (A := [[], [], [0, 1], [0, 1, 2], [0, 1, 2, 3], [0, 1, 2, 3, 4], [], [6], [0, 1, 2, 3, 4, 5, 6, 7]]) (ws := []) (n0 := 1) tok _ _ _ _ _ rfl ?_; simp only [runD_nil, runD_op, obl, newX, wokB, seenOpts, seenV, seenE, seenL, xOf, wX, Wof, maskH, merge, mergeH, Ent.flag, allW, List.contains_nil, List.contains_cons, List.lookup_nil, Bool.or_false, Bool.or_true, Nat.reduceBEq, Nat.le_refl, beq_self_eq_true, and_self, true_and, ↓reduceIte, dop, ev, put, dBin, Ent.w, pureP, List.getD_cons_zero, List.getD_cons_succ, List.set_cons_zero, List.set_cons_succ, Option.map_some, Bool.false_eq_true, true_and, List.length_cons, List.length_nil, Nat.reduceAdd, List.cons_append, List.nil_append, List.append_nil, List.drop_succ_cons, List.drop_nil, List.map_nil, List.all_nil, Bool.and_self, Nat.zero_add, decide_true]
      refine ⟨by rfl, ?_⟩
      refine run_ok tok 400 _ _ ?_; simp only [↓reduceIte, run_blk, run_back, run_opsNil, run_op, run_skip, run_seq, run_cond, run_ret, run_region, dop, ev, ofV, ofLeaf, put, told, dBin, pureP, List.getD_cons_zero, List.getD_cons_succ, List.set_cons_zero, List.set_cons_succ, Option.map_some, true_and]
      simp only [ne_eq, not_true_eq_false, decide_false, sel_false]
      refine ⟨i + 1, [(0, 0)], by omega, by omega, ?_⟩
      simp only [hw, hw7]
      simp (config := {contextual := true}) [idTo, noW, fstNodup, cV, cE, cL, cLs, cVs, cView, cEnt, cRow, look, Row.z, Row.n, Row.at, Ent.w, Ent.m, Ent.row, lessP]
    · refine Out.of [(0, 0)] ?_
      obtain rfl : i = n := by omega
      simp (config := {contextual := true}) [outP, outOf, resL, idTo, noW, fstNodup, cV, cE, cL, cLs, cView, cEnt, cRow, look, Row.z, Row.n, Row.at, Ent.w, Ent.m, Ent.row, mkE]
theorem t66n (k : Int) : Tri Try.prog 66 [.nils, .i64 k] [] (.i64 k) [] := by
  refine Tri.of tok Try.func66 rfl ?_; simp only [Try.ntmps66, Try.results66, List.length_cons, List.length_nil, Nat.reduceAdd, Nat.reduceSub, List.replicate_succ, List.replicate_zero, List.cons_append, List.nil_append]; refine run_ok tok 400 _ _ ?_; simp only [run_opsNil, run_op, run_seq, run_block, run_region, run_loop, dop, ev, ofV, ofLeaf, put, List.set_cons_zero, List.set_cons_succ, true_and]
  refine D.loopI (fun i : Nat => ⟨rg 69 [(0, .nils), (1, .i64 k), (5, .i64 0)], []⟩) (fun i => i = 0) (fun i => 0) 0 [] rfl ?_ ?_
  · simp [idTo, noW, fstNodup, cV, cE, cL, cVs, cView, Ent.w, lessP, rg, List.replicate_succ]
  · intro i hi
    simp only [rg, List.replicate_succ, List.replicate_zero, List.set_cons_zero, List.set_cons_succ]
    refine run_ok tok 400 _ _ ?_; simp only [↓reduceIte, run_opsNil, run_op, run_skip, run_seq, run_block, run_cond, run_exit, run_ret, run_region, dop, ev, put, told, exitT, dBin, dIndexAddr, dLen, dBuiltin, pureP, pureO, tab, List.getD_cons_zero, List.getD_cons_succ, List.set_cons_zero, List.set_cons_succ, Option.map_some, Option.map_none, true_and, List.map_cons, List.map_nil, Nat.lt_irrefl]
    simp only [decide_false, sel_false, Int.lt_irrefl]
    refine Out.of [] ?_; simp (config := {contextual := true}) [outP, outOf, resL, idTo, noW, fstNodup, cV, cE, cL, cView, Ent.w]
theorem t68n (k : Int) : Tri Try.prog 68 [.nils, .i64 k] [] (.i64 k) [] := by
  refine Tri.of tok Try.func68 rfl ?_; simp only [Try.ntmps68, Try.results68, List.length_cons, List.length_nil, Nat.reduceAdd, Nat.reduceSub, List.replicate_succ, List.replicate_zero, List.cons_append, List.nil_append]; refine run_ok tok 400 _ _ ?_; simp only [run_opsNil, run_op, run_seq, run_block, run_region, run_loop, dop, ev, ofV, ofLeaf, put, List.set_cons_zero, List.set_cons_succ, true_and]
  refine D.loopI (fun i : Nat => ⟨rg 83 [(0, .nils), (1, .i64 k), (5, .i64 0)], []⟩) (fun i => i = 0) (fun i => 0) 0 [] rfl ?_ ?_
  · simp [idTo, noW, fstNodup, cV, cE, cL, cVs, cView, Ent.w, lessP, rg, List.replicate_succ]
  · intro i hi
    simp only [rg, List.replicate_succ, List.replicate_zero, List.set_cons_zero, List.set_cons_succ]
    refine run_ok tok 400 _ _ ?_; simp only [↓reduceIte, run_opsNil, run_op, run_skip, run_seq, run_block, run_cond, run_exit, run_ret, run_region, dop, ev, put, told, exitT, dBin, dIndexAddr, dLen, dBuiltin, pureP, pureO, tab, List.getD_cons_zero, List.getD_cons_succ, List.set_cons_zero, List.set_cons_succ, Option.map_some, Option.map_none, true_and, List.map_cons, List.map_nil, Nat.lt_irrefl]
    simp only [decide_false, sel_false, Int.lt_irrefl]
    refine Out.of [] ?_; simp (config := {contextual := true}) [outP, outOf, resL, idTo, noW, fstNodup, cV, cE, cL, cView, Ent.w]
end Go.Proofs.YtnlohhgcimcmnaaE
