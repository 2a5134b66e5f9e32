/- A part of the proof of a law of the given program: contracts of functions. No condition of its own. -/
import Derived.Test.YtnlohhgcimcmnaaER17
import Derived.Test.YtnlohhgcimcmnaaEG4
namespace Go.Proofs.YtnlohhgcimcmnaaE
open Go.Proofs
set_option maxRecDepth 100000
abbrev rowB (a : Nat → Int) : Nat → List DV := fun i => [.int .u8 (a i)]
abbrev bF (n : Nat) (a : Nat → Int) : Option Ent := some (.one false (.arr 1 n (rowB a)))
abbrev bT (n : Nat) (a : Nat → Int) : Option Ent := some (.one true (.arr 1 n (rowB a)))
/-- A list of bytes. -/
abbrev lT (l : List Int) : Option Ent := some (.one true (.arr 1 l.length (rowB (fun i => l.getD i 0))))
theorem t29 (n p q : Nat) (hn : n ≤ 4194304) (a : Nat → Int) : Tri Try.prog 29 [.sl 0 0 0 n p, .sl 1 0 0 n q] [bF n a, bF n a] (.bool true) [bF n a, bF n a] := by
  refine Tri.of tok Try.func29 rfl ?_; simp only [Try.ntmps29, Try.results29, List.length_cons, List.length_nil, Nat.reduceAdd, Nat.reduceSub, List.replicate_succ, List.replicate_zero, List.cons_append, List.nil_append]; refine run_ok tok 400 _ _ ?_; simp only [↓reduceIte, run_opsNil, run_op, run_skip, run_seq, run_block, run_cond, run_ret, run_region, run_loop, dop, ev, ofV, ofLeaf, put, told, dBin, dLen, dBuiltin, pureP, pureO, tab, List.getD_cons_zero, List.getD_cons_succ, List.set_cons_zero, List.set_cons_succ, Option.map_some, true_and, List.map_cons, List.map_nil]
  simp only [ne_eq, not_true_eq_false, decide_false, sel_false]
  refine D.loopI (fun k : Nat => ⟨rg 26 [(0, .sl 0 0 0 n p), (1, .sl 1 0 0 n q), (5, .i64 k)], [bF n a, bF n a]⟩) (fun k => k ≤ n) (fun k => n - k) 0 [(0, 0), (1, 0)] (Nat.zero_le _) ?_ ?_
  · simp [idTo, noW, fstNodup, cV, cE, cL, cLs, cVs, cView, cEnt, cRow, look, Row.z, Row.n, Row.at, Ent.w, Ent.m, Ent.row, lessP, rg, List.replicate_succ]
  intro k hk
  simp only [rg, List.replicate_succ, List.replicate_zero, List.set_cons_zero, List.set_cons_succ]
  refine run_ok tok 400 _ _ ?_; simp only [↓reduceIte, run_opsNil, run_op, run_skip, run_seq, run_block, run_cond, run_exit, run_ret, run_region, run_drawn, dop, ev, ofV, ofLeaf, put, told, exitT, dBin, dLen, dBuiltin, pureP, pureO, tab, List.getD_cons_zero, List.getD_cons_succ, List.set_cons_zero, List.set_cons_succ, Option.map_some, true_and, List.map_cons, List.map_nil]
  refine ⟨fun h => ?_, fun h => ?_⟩ <;> try simp only [decide_eq_true_eq, decide_eq_false_iff_not] at h
  · have hw : IntKind.i64.wrap ((k : Int) + 1) = ((k + 1 : Nat) : Int) := by rw [IntKind.wrap_i64]; omega
    refine D.draw1 (by rfl) [[], [], [0, 1], [0, 1, 2], [], [], [4, 5], [4, 5, 6], [0, 1, 2, 3, 4, 5, 6, 7]] (by simp only [List.length_cons, List.length_nil, Nat.reduceAdd, Nat.reduceLeDiff]) ?_; refine runD_ok (A := [[], [], [0, 1], [0, 1, 2], [], [], [4, 5], [4, 5, 6], [0, 1, 2, 3, 4, 5, 6, 7]]) (ws := []) (n0 := 2) tok 0 _ _ _ _ rfl ?_; simp only [runD_nil, runD_op, obl, newX, wokB, seenOpts, seenV, seenE, seenL, xOf, wX, Wof, upto, maskH, merge, mergeH, Ent.flag, allW, List.contains_nil, List.contains_cons, List.lookup_nil, Bool.or_false, Bool.or_true, Nat.reduceBEq, Nat.sub_self, Nat.le_refl, beq_self_eq_true, and_self, and_true, true_and, ↓reduceIte, dop, ev, put, dBin, dIndexAddr, dLoad, Row.z, Row.n, Row.at, Ent.w, Ent.m, Ent.row, look, pureP, tab, TK.agg, List.getD_cons_zero, List.getD_cons_succ, List.set_cons_zero, List.set_cons_succ, Option.map_some, Option.join_some, List.getElem?_cons_zero, List.getElem?_cons_succ, Bool.false_eq_true, true_and, and_true, List.length_cons, List.length_nil, Nat.reduceAdd, List.cons_append, List.nil_append, List.append_nil, List.drop_zero, List.drop_succ_cons, List.drop_nil, List.take_succ_cons, List.take_nil, List.headD_cons, List.map_nil, List.all_nil, Bool.and_self, Nat.zero_lt_succ, Nat.lt_add_one, or_true, Nat.zero_add, decide_true, Int.toNat_natCast]
    refine ⟨⟨by omega, by omega⟩, by omega, ⟨by omega, by omega⟩, by omega, ?_⟩
    refine ⟨by rfl, ?_⟩
    refine run_ok tok 400 _ _ ?_; simp only [↓reduceIte, run_blk, run_back, run_opsNil, run_op, run_skip, run_seq, run_cond, run_ret, run_region, dop, ev, ofV, ofLeaf, put, told, dBin, pureP, List.getD_cons_zero, List.getD_cons_succ, List.set_cons_zero, List.set_cons_succ, Option.map_some, true_and]
    simp only [ne_eq, not_true_eq_false, decide_false, sel_false]
    refine ⟨k + 1, [(0, 0), (1, 0)], by omega, by omega, ?_⟩
    simp (config := {contextual := true}) [idTo, noW, fstNodup, cV, cE, cL, cLs, cVs, cView, cEnt, cRow, look, Row.z, Row.n, Row.at, Ent.w, Ent.m, Ent.row, lessP, hw]
  · refine Out.of [(0, 0), (1, 0)] ?_; simp (config := {contextual := true}) [outP, outOf, resL, idTo, noW, fstNodup, cV, cE, cL, cLs, cView, cEnt, cRow, look, Row.z, Row.n, Row.at, Ent.w, Ent.m, Ent.row]
abbrev mkB (k : Nat) : Nat → Int := fun i => IntKind.u8.wrap ((k + 1 * i : Nat) : Int)
theorem t31 (n p : Nat) (hn : n ≤ 4194304) (k : Nat) (hk : k ≤ 67108864) (a : Nat → Int) : Tri Try.prog 31 [.sl 0 0 0 n p, .i64 k] [bT n a] (.i64 (k + 1 * n : Nat)) [bT n (mkB k)] := by
  refine Tri.of tok Try.func31 rfl ?_; simp only [Try.ntmps31, Try.results31, List.length_cons, List.length_nil, Nat.reduceAdd, Nat.reduceSub, List.replicate_succ, List.replicate_zero, List.cons_append, List.nil_append]; refine run_ok tok 400 _ _ ?_; simp only [run_opsNil, run_op, run_seq, run_block, run_region, run_loop, dop, ev, ofV, ofLeaf, put, List.set_cons_zero, List.set_cons_succ, true_and]
  refine D.loopI (fun i : Nat => ⟨rg 20 [(0, .sl 0 0 0 n p), (1, .i64 (k + 1 * i : Nat)), (5, .i64 i)], [some (.one true (.arr 1 n fun j => if j < i then [.int .u8 (mkB k j)] else rowB a j))]⟩) (fun i => i ≤ n) (fun i => n - i) 0 [(0, 0)] (Nat.zero_le _) ?_ ?_
  · simp (config := {contextual := true}) [idTo, noW, fstNodup, cV, cE, cL, cLs, cVs, cView, cEnt, cRow, look, Row.z, Row.n, Row.at, Ent.w, Ent.m, Ent.row, lessP, rg, List.replicate_succ]
  intro i hi
  simp only [rg, List.replicate_succ, List.replicate_zero, List.set_cons_zero, List.set_cons_succ]
  refine run_ok tok 400 _ _ ?_; simp only [↓reduceIte, run_blk, run_back, run_opsNil, run_op, run_skip, run_seq, run_block, run_cond, run_exit, run_ret, run_region, dop, ev, ofV, ofLeaf, put, told, exitT, dBin, dConv, dIndexAddr, dLen, dBuiltin, dStore, splice, cellsOf, DV.leaf, Row.z, Row.n, Row.at, Row.upd, Ent.w, Ent.m, Ent.row, Ent.upd, look, pureP, pureO, tab, List.getD_cons_zero, List.getD_cons_succ, List.set_cons_zero, List.set_cons_succ, Option.map_some, Option.join_some, List.getElem?_cons_zero, true_and, and_true, List.length_cons, List.length_nil, List.nil_append, List.append_nil, List.drop_succ_cons, List.drop_nil, List.take_zero, List.map_cons, List.map_nil, List.all_cons, List.all_nil, Bool.and_self, Nat.lt_irrefl, Nat.reduceLeDiff, Nat.lt_add_one, Nat.zero_add, Int.toNat_natCast]
  refine ⟨fun h => ?_, fun h => ?_⟩ <;> try simp only [decide_eq_true_eq, decide_eq_false_iff_not] at h
  · have hw : IntKind.i64.wrap ((i : Int) + 1) = ((i + 1 : Nat) : Int) := by rw [IntKind.wrap_i64]; omega
    have hw1 : IntKind.i64.wrap (((k + 1 * i : Nat) : Int) + 1) = ((k + 1 * (i + 1) : Nat) : Int) := by rw [IntKind.wrap_i64]; omega
    refine ⟨⟨by omega, by omega⟩, by omega, i + 1, [(0, 0)], by omega, by omega, ?_⟩
    simp only [hw, hw1]
    simp (config := {contextual := true}) [idTo, noW, fstNodup, cV, cE, cL, cVs, cView, cEnt, cRow, look, Row.z, Row.n, Row.at, Ent.w, Ent.m, Ent.row, lessP]
    intro j hj
    rcases Nat.lt_trichotomy j i with h | h | h
    · simp [h, Nat.ne_of_lt h, Nat.lt_succ_of_lt h, cLs, cL]
    · simp [h, cLs, cL, mkB]
    · have h1 : ¬ j < i := by omega
      have h2 : ¬ j = i := by omega
      have h3 : ¬ j < i + 1 := by omega
      simp [h1, h2, h3, cLs, cL]
  · refine Out.of [(0, 0)] ?_
    obtain rfl : i = n := by omega
    simp (config := {contextual := true}) [outP, outOf, resL, idTo, noW, fstNodup, cV, cE, cL, cLs, cView, cEnt, cRow, look, Row.z, Row.n, Row.at, Ent.w, Ent.m, Ent.row]
theorem t32 (n p : Nat) (hn : n ≤ 4194304) (k : Nat) (hk : k ≤ 67108864) : Tri Try.prog 32 [.sl 0 0 0 n p, .i64 k] [bF n (mkB k)] (.i64 (k + 1 * n : Nat)) [bF n (mkB k)] := by
  refine Tri.of tok Try.func32 rfl ?_; simp only [Try.ntmps32, Try.results32, List.length_cons, List.length_nil, Nat.reduceAdd, Nat.reduceSub, List.replicate_succ, List.replicate_zero, List.cons_append, List.nil_append]; refine run_ok tok 400 _ _ ?_; simp only [run_opsNil, run_op, run_seq, run_block, run_region, run_loop, dop, ev, ofV, ofLeaf, put, List.set_cons_zero, List.set_cons_succ, true_and]
  refine D.loopI (fun i : Nat => ⟨rg 22 [(0, .sl 0 0 0 n p), (1, .i64 (k + 1 * i : Nat)), (5, .i64 i)], [bF n (mkB k)]⟩) (fun i => i ≤ n) (fun i => n - i) 0 [(0, 0)] (Nat.zero_le _) ?_ ?_
  · simp (config := {contextual := true}) [idTo, noW, fstNodup, cV, cE, cL, cLs, cVs, cView, cEnt, cRow, look, Row.z, Row.n, Row.at, Ent.w, Ent.m, Ent.row, lessP, rg, List.replicate_succ]
  intro i hi
  simp only [rg, List.replicate_succ, List.replicate_zero, List.set_cons_zero, List.set_cons_succ]
  refine run_ok tok 400 _ _ ?_; simp only [↓reduceIte, run_blk, run_back, run_opsNil, run_op, run_skip, run_seq, run_block, run_cond, run_exit, run_ret, run_region, dop, ev, ofV, ofLeaf, put, told, exitT, dBin, dConv, dIndexAddr, dLen, dBuiltin, dLoad, Row.z, Row.n, Row.at, Ent.m, Ent.row, look, pureP, pureO, tab, TK.agg, List.getD_cons_zero, List.getD_cons_succ, List.set_cons_zero, List.set_cons_succ, Option.map_some, Option.join_some, List.getElem?_cons_zero, Bool.false_eq_true, true_and, and_true, List.drop_zero, List.take_succ_cons, List.take_nil, List.headD_cons, List.map_cons, List.map_nil, Nat.reduceLeDiff, Nat.lt_add_one, or_true, Nat.zero_add, Int.toNat_natCast]
  refine ⟨fun h => ?_, fun h => ?_⟩ <;> try simp only [decide_eq_true_eq, decide_eq_false_iff_not] at h
  · have hw : IntKind.i64.wrap ((i : Int) + 1) = ((i + 1 : Nat) : Int) := by rw [IntKind.wrap_i64]; omega
    have hw1 : IntKind.i64.wrap (((k + 1 * i : Nat) : Int) + 1) = ((k + 1 * (i + 1) : Nat) : Int) := by rw [IntKind.wrap_i64]; omega
    refine ⟨⟨by omega, by omega⟩, by omega, ?_⟩
    try simp only [ne_eq, not_true_eq_false, decide_false, sel_false]
    refine ⟨i + 1, [(0, 0)], by omega, by omega, ?_⟩
    simp only [hw, hw1]
    simp (config := {contextual := true}) [idTo, noW, fstNodup, cV, cE, cL, cLs, cVs, cView, cEnt, cRow, look, Row.z, Row.n, Row.at, Ent.w, Ent.m, Ent.row, lessP]
  · refine Out.of [(0, 0)] ?_
    obtain rfl : i = n := by omega
    simp (config := {contextual := true}) [outP, outOf, resL, idTo, noW, fstNodup, cV, cE, cL, cLs, cView, cEnt, cRow, look, Row.z, Row.n, Row.at, Ent.w, Ent.m, Ent.row]
theorem t30 (w : WF) (n n1 : Nat) (hn : n ≤ 1048576) (e : EF) (m m1 : Nat) (hm : m ≤ 1048576) (g h : Nat → Int) (p p1 : Nat) (hp : p ≤ 1048576) (f : Nat → Int) (k : Nat) (hk0 : 0 < k) (hk : k ≤ 1048576) :
   Tri Try.prog 30 [dvW w (.sl 0 0 0 n n1) (.sl 1 0 0 m m1) (.sl 2 0 0 p p1), .i64 k] [entT n e, prT m g h, intT p f] (.i64 (k + 7 * n + 2 * m + 1 * p : Nat)) [none, none, none] := by
  refine Tri.of tok Try.func30 rfl ?_; simp only [Try.ntmps30, Try.results30, List.length_cons, List.length_nil, Nat.reduceAdd, Nat.reduceSub, List.replicate_succ, List.replicate_zero, List.cons_append, List.nil_append]; refine run_ok tok 400 _ _ ?_; simp only [↓reduceIte, run_opsNil, run_op, run_seq, run_region, dop, ev, ofV, ofLeaf, put, dFieldAddr, dBox, dLoad, newRow1, cellsOf, DV.leaf, Row.z, Row.n, Row.at, Ent.m, Ent.row, look, pureP, pureO, newP, tab, TK.agg, List.getD_cons_zero, List.getD_cons_succ, List.set_cons_zero, List.set_cons_succ, Option.map_some, Option.join_some, List.getElem?_cons_zero, List.getElem?_cons_succ, Bool.false_eq_true, true_and, and_true, List.length_cons, List.length_nil, Nat.reduceAdd, List.cons_append, List.nil_append, List.drop_zero, List.drop_succ_cons, List.take_zero, List.take_succ_cons, List.headD_cons, List.all_cons, List.all_nil, Bool.and_self, Nat.reduceLeDiff, Nat.lt_add_one, or_true, Nat.zero_add, reduceCtorEq]
  refine D.call Try.func66 [(0, 0)] (t66 n n1 hn k hk0 (by omega) e) ?_; simp only [↓reduceIte, callP, callOk, wOk, jsOf, noW, fstNodup, allW, sig, renV, renE, renL, afterH, backH, Row.ren, Ent.ren, capV, cV, cE, cL, cLs, cVs, cView, cEnt, cRow, ev, look, Row.z, Row.n, Row.at, Ent.w, Ent.m, Ent.row, put, List.lookup_cons, List.lookup_nil, Bool.or_true, Bool.and_true, Bool.not_true, Bool.not_false, beq_self_eq_true, List.any_nil, List.all_cons, List.all_nil, List.getD_cons_zero, List.getD_cons_succ, List.set_cons_zero, List.set_cons_succ, List.getElem?_cons_zero, List.length_cons, List.length_nil, List.drop_succ_cons, List.drop_nil, List.map_cons, List.map_nil, List.append_nil, Option.map_some, Option.join_some, Nat.reduceAdd, Nat.reduceBEq, Nat.lt_add_one, Nat.zero_lt_succ, Nat.add_zero, Nat.zero_add, Nat.le_refl, decide_true, true_and, and_true, and_self, implies_true, imp_self]; refine run_ok tok 400 _ _ ?_; simp only [↓reduceIte, run_opsNil, run_op, run_seq, run_region, dop, ev, put, dFieldAddr, dLoad, Row.z, Row.n, Row.at, Ent.m, Ent.row, look, pureP, pureO, tab, TK.agg, List.getD_cons_zero, List.getD_cons_succ, List.set_cons_zero, List.set_cons_succ, Option.map_some, Option.join_some, List.getElem?_cons_zero, List.getElem?_cons_succ, Bool.false_eq_true, true_and, and_true, List.length_cons, List.length_nil, Nat.reduceAdd, List.drop_zero, List.drop_succ_cons, List.take_zero, List.take_succ_cons, List.headD_cons, Nat.reduceLeDiff, Nat.lt_add_one, or_true, Nat.zero_add, reduceCtorEq]
  refine D.call Try.func81 [(1, 0)] (t81 m m1 hm (k + 7 * n) (by omega) g h) ?_; simp only [↓reduceIte, callP, callOk, wOk, jsOf, noW, fstNodup, allW, sig, renV, renE, renL, afterH, backH, Row.ren, Ent.ren, capV, cV, cE, cL, cLs, cVs, cView, cEnt, cRow, ev, look, Row.z, Row.n, Row.at, Ent.w, Ent.m, Ent.row, put, List.lookup_cons, List.lookup_nil, Bool.or_true, Bool.and_true, Bool.not_true, Bool.not_false, beq_self_eq_true, List.any_nil, List.all_cons, List.all_nil, List.getD_cons_zero, List.getD_cons_succ, List.set_cons_zero, List.set_cons_succ, List.getElem?_cons_zero, List.getElem?_cons_succ, List.length_cons, List.length_nil, List.drop_succ_cons, List.drop_nil, List.map_cons, List.map_nil, List.append_nil, Option.map_some, Option.join_some, Nat.reduceAdd, Nat.reduceLT, Nat.reduceBEq, Nat.lt_add_one, Nat.add_zero, Nat.zero_add, Nat.le_refl, decide_true, true_and, and_true, and_self, implies_true, imp_self]; refine run_ok tok 400 _ _ ?_; simp only [↓reduceIte, run_opsNil, run_op, run_seq, run_region, dop, ev, put, dFieldAddr, dLoad, Row.z, Row.n, Row.at, Ent.m, Ent.row, look, pureP, pureO, tab, TK.agg, List.getD_cons_zero, List.getD_cons_succ, List.set_cons_zero, List.set_cons_succ, Option.map_some, Option.join_some, List.getElem?_cons_zero, List.getElem?_cons_succ, Bool.false_eq_true, true_and, and_true, List.length_cons, List.length_nil, Nat.reduceAdd, List.drop_zero, List.drop_succ_cons, List.take_zero, List.take_succ_cons, List.headD_cons, Nat.reduceLeDiff, Nat.lt_add_one, or_true, Nat.zero_add, reduceCtorEq]
  refine D.call Try.func67 [(2, 0)] (t67 p p1 hp (k + 7 * n + 2 * m) (by omega) f) ?_; simp only [↓reduceIte, callP, callOk, wOk, jsOf, noW, fstNodup, allW, sig, renV, renE, renL, afterH, backH, Row.ren, Ent.ren, capV, cV, cE, cL, cLs, cVs, cView, cEnt, cRow, ev, look, Row.z, Row.n, Row.at, Ent.w, Ent.m, Ent.row, put, List.lookup_cons, List.lookup_nil, Bool.or_true, Bool.and_true, Bool.not_true, Bool.not_false, beq_self_eq_true, List.any_nil, List.all_cons, List.all_nil, List.getD_cons_zero, List.getD_cons_succ, List.set_cons_zero, List.set_cons_succ, List.getElem?_cons_zero, List.getElem?_cons_succ, List.length_cons, List.length_nil, List.drop_succ_cons, List.drop_nil, List.map_cons, List.map_nil, List.append_nil, Option.map_some, Option.join_some, Nat.reduceAdd, Nat.reduceLT, Nat.reduceBEq, Nat.lt_add_one, Nat.add_zero, Nat.zero_add, Nat.le_refl, decide_true, true_and, and_true, and_self, implies_true, imp_self]; refine run_ok tok 400 _ _ ?_; simp only [run_opsNil, run_op, run_seq, run_ret, run_region, dop, ev, put, List.getD_cons_zero, List.getD_cons_succ, List.set_cons_zero, List.set_cons_succ, true_and]
  refine Out.of [(0, 0), (1, 0), (2, 0)] ?_; simp (config := {contextual := true}) [outP, outOf, resL, idTo, noW, fstNodup, cV, cE, cL, cView, cEnt, Ent.w]
/-! ### numbers as bytes -/
def b7 : Nat → Nat → List Int
  | 0, n => [(n : Int)]
  | f + 1, n => if 127 < n then ((128 + n % 128 : Nat) : Int) :: b7 f (n / 128) else [(n : Int)]
def zig (n : Int) : Nat := if n < 0 then (-2 * n - 1).toNat else (2 * n).toNat
/-- The bytes of a number. -/
def numE (n : Int) : List Int := b7 4 (zig n)
theorem b7_len : ∀ (f n : Nat), (b7 f n).length ≤ f + 1
  | 0, n => by simp [b7]
  | f + 1, n => by
    have := b7_len f (n / 128)
    simp only [b7]
    split
    · simp only [List.length_cons]; omega
    · simp
theorem numE_len (n : Int) : (numE n).length ≤ 5 := b7_len 4 _
end Go.Proofs.YtnlohhgcimcmnaaE
