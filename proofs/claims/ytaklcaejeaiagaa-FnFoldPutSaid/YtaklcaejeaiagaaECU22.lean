/- A part of the proof of a law of the given program: contracts of functions. No condition of its own. -/
import Derived.Test.YtaklcaejeaiagaaECU21
namespace Go.Proofs.YtaklcaejeaiagaaE
open Go.Proofs
set_option maxRecDepth 100000
theorem c55 : Try.prog.cellsOf 63 = 2 := by kernel_rfl
theorem cc3 : Try.prog.cellsOf 3 = 1 := by kernel_rfl
theorem is55 : IntS Try.prog 63 2 := by
  refine ⟨by kernel_rfl, by kernel_rfl, fun l hl hw => ?_, fun l hl => ?_⟩
  · match l, hl, hw with
    | [a, b], _, hw =>
      have ha := hw a (by simp)
      have hb := hw b (by simp)
      have k1 : ∀ x : Int, (Lit.int .i64 x).wf = true → Try.prog.keyLits 1 3 [.int .i64 x] = some [.int .i64 x] := fun x hx => by
        unfold Program.keyLits
        rw [Try.underlying3]
        simp [hx]
      unfold Program.keyLits
      rw [Try.underlying63]
      simp [c55, cc3, k1, ha, hb]
  · match l, hl with
    | [a, b], _ => simp [Value.formed, Try.underlying63, c55]
theorem wf_small {a : Int} (h : -1000000 ≤ a ∧ a ≤ 1000000) : (Lit.int .i64 a).wf = true := by
  simp [Lit.wf, IntKind.min, IntKind.max, IntKind.bits, IntKind.signed]
  omega
abbrev arr2F (n : Nat) (a b : Nat → Int) : Option Ent := some (.one false (.arr 2 n (row2 a b)))
theorem t31 (n p q : Nat) (hn : n ≤ 1048576) (a b : Nat → Int) (ha : ∀ i, i < n → (-1000000 ≤ a i ∧ a i ≤ 1000000) ∧ (-1000000 ≤ b i ∧ b i ≤ 1000000)) : Tri Try.prog 31 [.sl 0 0 0 n p, .sl 1 0 0 n q] [arr2F n a b, arr2F n a b] (.bool true) [arr2F n a b, arr2F n a b] := by
  refine Tri.of tok Try.func31 rfl ?_; simp only [Try.ntmps31, Try.results31, List.length_cons, List.length_nil, Nat.reduceAdd, Nat.reduceSub, List.replicate_succ, List.replicate_zero, List.cons_append, List.nil_append]; refine run_ok tok 400 _ _ ?_; simp only [↓reduceIte, run_opsNil, run_op, run_skip, run_seq, run_block, run_cond, run_ret, run_region, run_loop, dop, ev, ofV, ofLeaf, put, told, dBin, dLen, dBuiltin, pureP, pureO, tab, List.getD_cons_zero, List.getD_cons_succ, List.set_cons_zero, List.set_cons_succ, Option.map_some, true_and, List.map_cons, List.map_nil]
  simp only [ne_eq, not_true_eq_false, decide_false, sel_false]
  refine D.loopI (fun k : Nat => ⟨rg 26 [(0, .sl 0 0 0 n p), (1, .sl 1 0 0 n q), (5, .i64 k)], [arr2F n a b, arr2F n a b]⟩) (fun k => k ≤ n) (fun k => n - k) 0 [(0, 0), (1, 0)] (Nat.zero_le _) ?_ ?_
  · simp [idTo, noW, fstNodup, cV, cE, cL, cLs, cVs, cView, cEnt, cRow, look, Row.z, Row.n, Row.at, Ent.w, Ent.m, Ent.row, lessP, rg, List.replicate_succ]
  intro k hk
  simp only [rg, List.replicate_succ, List.replicate_zero, List.set_cons_zero, List.set_cons_succ]
  refine run_ok tok 400 _ _ ?_; simp only [↓reduceIte, run_opsNil, run_op, run_skip, run_seq, run_block, run_cond, run_exit, run_ret, run_region, run_drawn, dop, ev, ofV, ofLeaf, put, told, exitT, dBin, dLen, dBuiltin, pureP, pureO, tab, List.getD_cons_zero, List.getD_cons_succ, List.set_cons_zero, List.set_cons_succ, Option.map_some, true_and, List.map_cons, List.map_nil]
  refine ⟨fun h => ?_, fun h => ?_⟩ <;> try simp only [decide_eq_true_eq, decide_eq_false_iff_not] at h
  · have hw : IntKind.i64.wrap ((k : Int) + 1) = ((k + 1 : Nat) : Int) := by rw [IntKind.wrap_i64]; omega
    refine D.draw1 (by rfl) [[], [], [0, 1], [0, 1, 2], [], [], [4, 5], [4, 5, 6], [0, 1, 2, 3, 4, 5, 6, 7]] (by simp only [List.length_cons, List.length_nil, Nat.reduceAdd, Nat.reduceLeDiff]) ?_; refine runD_ok (A := [[], [], [0, 1], [0, 1, 2], [], [], [4, 5], [4, 5, 6], [0, 1, 2, 3, 4, 5, 6, 7]]) (ws := []) (n0 := 2) tok 0 _ _ _ _ rfl ?_; simp only [runD_op, obl, newX, wokB, seenOpts, seenV, seenE, seenL, xOf, wX, Wof, upto, maskH, merge, mergeH, Ent.flag, allW, List.contains_nil, List.contains_cons, List.forall_mem_cons, List.not_mem_nil, false_implies, List.lookup_nil, Bool.or_false, Bool.or_true, Nat.reduceBEq, Nat.sub_self, Nat.le_refl, beq_self_eq_true, implies_true, and_self, and_true, true_and, ↓reduceIte, dop, ev, put, dBin, dIndexAddr, dLoad, Row.z, Row.n, Row.at, Ent.w, Ent.m, Ent.row, look, pureP, tab, TK.agg, List.getD_cons_zero, List.getD_cons_succ, List.set_cons_zero, List.set_cons_succ, Option.map_some, Option.map_none, Option.join_some, List.getElem?_cons_zero, List.getElem?_cons_succ, Bool.false_eq_true, true_and, and_true, List.length_cons, List.length_nil, Nat.reduceAdd, List.cons_append, List.nil_append, List.append_nil, List.drop_zero, List.drop_succ_cons, List.drop_nil, List.take_succ_cons, List.take_nil, List.map_nil, List.all_nil, Bool.and_self, Nat.zero_lt_succ, Nat.lt_add_one, true_or, Nat.zero_add, decide_true, Int.toNat_natCast, Nat.reduceEqDiff]
    refine ⟨⟨by omega, by omega⟩, by omega, ⟨by omega, by omega⟩, by omega, ?_⟩
    have wa : (Lit.int .i64 (a k)).wf = true := wf_small (ha k (by omega)).1
    have wb : (Lit.int .i64 (b k)).wf = true := wf_small (ha k (by omega)).2
    refine Dr.neqS [[], [], [0, 1], [0, 1, 2], [], [], [4, 5], [4, 5, 6], [0, 1, 2, 3, 4, 5, 6, 7]] [] 2 is55 [a k, b k] [a k, b k] rfl rfl (by simp only [List.forall_mem_cons, List.not_mem_nil, false_implies, implies_true, and_true]; (repeat (first | assumption | refine And.intro (by assumption) ?_))) (by simp only [List.forall_mem_cons, List.not_mem_nil, false_implies, implies_true, and_true]; (repeat (first | assumption | refine And.intro (by assumption) ?_))) rfl rfl rfl ?_; simp only [↓reduceIte, allW, Ent.w, put, List.lookup_nil, Bool.or_true, Bool.or_false, beq_self_eq_true, List.all_nil, List.getD_cons_zero, List.getD_cons_succ, List.set_cons_zero, List.set_cons_succ, List.length_cons, List.length_nil, List.drop_succ_cons, List.drop_nil, List.map_nil, List.cons_append, List.nil_append, List.append_nil, Option.map_some, Nat.reduceAdd, Nat.reduceBEq, Nat.zero_add, Nat.le_refl, decide_true, true_and, and_self, Bool.false_eq_true, obl, newX, wokB, seenOpts, seenV, seenE, seenL, xOf, wX, Wof, maskH, merge, mergeH, Ent.flag, allW, List.contains_nil, List.contains_cons, List.lookup_nil, Bool.or_false, Bool.or_true, Nat.reduceBEq, Nat.le_refl, beq_self_eq_true, and_self, true_and, ↓reduceIte, put, Ent.w, List.getD_cons_zero, List.getD_cons_succ, List.set_cons_zero, List.set_cons_succ, Option.map_some, Bool.false_eq_true, true_and, List.length_cons, List.length_nil, Nat.reduceAdd, List.cons_append, List.nil_append, List.append_nil, List.drop_succ_cons, List.drop_nil, List.map_nil, List.all_nil, Bool.and_self, Nat.zero_add, decide_true]
    refine runD_ok (A := [[], [], [0, 1], [0, 1, 2], [], [], [4, 5], [4, 5, 6], [0, 1, 2, 3, 4, 5, 6, 7]]) (ws := []) (n0 := 2) tok _ _ _ _ _ rfl ?_; simp only [runD_nil]
    refine ⟨by rfl, ?_⟩
    simp only [ne_eq, not_true_eq_false, decide_false]
    refine run_ok tok 400 _ _ ?_; simp only [↓reduceIte, run_blk, run_back, run_opsNil, run_op, run_skip, run_cond, run_region, dop, ev, ofV, ofLeaf, put, told, dBin, pureP, ↓sel_false, List.getD_cons_zero, List.getD_cons_succ, List.set_cons_zero, List.set_cons_succ, Option.map_some, true_and]
    refine ⟨k + 1, [(0, 0), (1, 0)], by omega, by omega, ?_⟩
    simp (config := {contextual := true}) [idTo, noW, fstNodup, cV, cE, cL, cLs, cVs, cView, cEnt, cRow, look, Row.z, Row.n, Row.at, Ent.w, Ent.m, Ent.row, lessP, hw]
  · refine Out.of [(0, 0), (1, 0)] ?_; simp (config := {contextual := true}) [outP, outOf, resL, idTo, noW, fstNodup, cV, cE, cL, cLs, cView, cEnt, cRow, look, Row.z, Row.n, Row.at, Ent.w, Ent.m, Ent.row]
theorem t32 (n p : Nat) (hn : n ≤ 1048576) (g h : Nat → Int) (key : Int) : Tri Try.prog 32 [.sl 0 0 0 n p, .i64 key] [arr2F n g h] (.i64 (getV n g h key)) [arr2F n g h] := by
  refine Tri.of tok Try.func32 rfl ?_; simp only [Try.ntmps32, Try.results32, List.length_cons, List.length_nil, Nat.reduceAdd, Nat.reduceSub, List.replicate_succ, List.replicate_zero, List.cons_append, List.nil_append]; refine run_ok tok 400 _ _ ?_; simp only [run_opsNil, run_op, run_seq, run_block, run_region, run_loop, dop, ev, ofV, ofLeaf, put, List.set_cons_zero, List.set_cons_succ, true_and]
  refine D.loopI (fun k : Nat => ⟨rg 24 [(0, .sl 0 0 0 n p), (1, .i64 key), (5, .i64 k)], [arr2F n g h]⟩) (fun k => k ≤ n ∧ ∀ i, i < k → g i ≠ key) (fun k => n - k) 0 [(0, 0)] ⟨Nat.zero_le _, fun j hj => by omega⟩ ?_ ?_
  · simp (config := {contextual := true}) [idTo, noW, fstNodup, cV, cE, cL, cLs, cVs, cView, cEnt, cRow, look, Row.z, Row.n, Row.at, Ent.w, Ent.m, Ent.row, lessP, rg, List.replicate_succ]
  intro k ⟨hk, hg⟩
  simp only [rg, List.replicate_succ, List.replicate_zero, List.set_cons_zero, List.set_cons_succ]
  refine run_ok tok 400 _ _ ?_; simp only [↓reduceIte, run_blk, run_back, run_opsNil, run_op, run_skip, run_seq, run_block, run_cond, run_exit, run_ret, run_region, dop, ev, ofV, ofLeaf, put, told, exitT, dBin, dFieldAddr, dIndexAddr, dLen, dBuiltin, dLoad, Row.z, Row.n, Row.at, Ent.m, Ent.row, look, pureP, pureO, tab, TK.agg, List.getD_cons_zero, List.getD_cons_succ, List.set_cons_zero, List.set_cons_succ, Option.map_some, Option.join_some, List.getElem?_cons_zero, List.getElem?_cons_succ, Bool.false_eq_true, true_and, and_true, Nat.reduceAdd, List.drop_zero, List.drop_succ_cons, List.take_zero, List.take_succ_cons, List.take_nil, List.headD_cons, List.map_cons, List.map_nil, Nat.reduceLeDiff, Nat.lt_add_one, or_true, Nat.add_zero, Nat.zero_add, Int.toNat_natCast, reduceCtorEq]
  refine ⟨fun q => ?_, fun q => ?_⟩ <;> try simp only [decide_eq_true_eq, decide_eq_false_iff_not] at q
  · have hw : IntKind.i64.wrap ((k : Int) + 1) = ((k + 1 : Nat) : Int) := by rw [IntKind.wrap_i64]; omega
    refine ⟨⟨by omega, by omega⟩, by omega, ?_⟩
    refine ⟨fun q1 => ?_, fun q1 => ?_⟩ <;> try simp only [decide_eq_true_eq, decide_eq_false_iff_not] at q1
    · refine ⟨⟨by omega, by omega⟩, by omega, ?_⟩
      have hb := getV_hit (n := n) (g := g) (h := h) (i := k) (by omega) q1 hg
      refine Out.of [(0, 0)] ?_; simp (config := {contextual := true}) [outP, outOf, resL, idTo, noW, fstNodup, cV, cE, cL, cLs, cView, cEnt, cRow, look, Row.z, Row.n, Row.at, Ent.w, Ent.m, Ent.row, hb]
    · refine ⟨k + 1, [(0, 0)], ⟨by omega, fun j hj => ?_⟩, by omega, ?_⟩
      · by_cases hjk : j = k
        · subst hjk; exact q1
        · exact hg j (by omega)
      · simp (config := {contextual := true}) [idTo, noW, fstNodup, cV, cE, cL, cLs, cVs, cView, cEnt, cRow, look, Row.z, Row.n, Row.at, Ent.w, Ent.m, Ent.row, lessP, hw]
  obtain rfl : n = k := by omega
  have hb := getV_miss (h := h) hg
  refine Out.of [(0, 0)] ?_; simp (config := {contextual := true}) [outP, outOf, resL, idTo, noW, fstNodup, cV, cE, cL, cLs, cView, cEnt, cRow, look, Row.z, Row.n, Row.at, Ent.w, Ent.m, Ent.row, hb]
end Go.Proofs.YtaklcaejeaiagaaE
