/- A part of the proof of a law of the given program: contracts of functions. No condition of its own. -/
import Derived.Test.YtjdglheacigbnaaGreatEM1
namespace Go.Proofs.YtjdglheacigbnaaGreatE
open Go.Proofs
set_option maxRecDepth 100000
abbrev rowD (B : Nat) (a b c : Nat → Int) (len : Nat → Nat) : Nat → List DV := fun i => [.i64 (a i), .i64 (b i), .i64 (c i), .sl B i 0 (len i) 0]
set_option maxHeartbeats 4000000 in
theorem t41 (n : Nat) (hn : n ≤ 1048576) (a b c : Nat → Int) (len : Nat → Nat) (v : Nat → Nat → Int) (hl : ∀ i, i < n → len i ≤ 1048576) :
   Tri Tryz.prog 41 [.sl 0 0 0 n 0] [some (.one false (.arr 4 n (rowD 1 a b c len))), famF n len v] (.sl 2 0 0 n 0)
    [some (.one false (.arr 4 n (rowD 1 a b c len))), famF n len v, some (.one true (.arr 4 n (rowD 3 a b c len))), famT n len v] := by
  refine Tri.of tok Tryz.func41 rfl ?_; simp only [Tryz.ntmps41, Tryz.results41, List.length_cons, List.length_nil, Nat.reduceAdd, Nat.reduceSub, List.replicate_succ, List.replicate_zero, List.cons_append, List.nil_append]; refine run_ok tok 400 _ _ ?_; simp only [run_opsNil, run_op, run_seq, run_block, run_region, run_loop, dop, ev, ofV, ofLeaf, put, dLen, dBuiltin, dMake, newRow1, pureO, tab, List.getD_cons_zero, List.getD_cons_succ, List.set_cons_zero, List.set_cons_succ, Option.map_some, true_and, List.length_cons, List.length_nil, Nat.reduceAdd, List.cons_append, List.nil_append, List.map_cons, List.map_nil, Nat.zero_add, Int.toNat_natCast]
  refine ⟨by omega, ?_⟩
  refine D.ghostFam (fun _ => .arr 1 0 fun _ => []) ?_
  simp only [List.cons_append, List.nil_append]
  refine D.loopI (fun k : Nat => ⟨rg 23 [(0, .sl 0 0 0 n 0), (3, .sl 2 0 0 n n), (4, .i64 k)], [some (.one false (.arr 4 n (rowD 1 a b c len))), famF n len v, some (.one true (.arr 4 n fun i => if i < k then rowD 3 a b c len i else [.i64 0, .i64 0, .i64 0, .nils])), famT k len v]⟩) (fun k => k ≤ n) (fun k => n - k) 0 [(0, 0), (1, 0), (2, 0), (3, 0)] (Nat.zero_le _) ?_ ?_
  · simp [idTo, noW, fstNodup, cV, cE, cL, cLs, cVs, cView, cEnt, cRow, look, Row.z, Row.n, Row.at, Ent.w, Ent.m, Ent.row, lessP, rg, List.replicate_succ]
  intro k hk
  simp only [rg, List.replicate_succ, List.replicate_zero, List.set_cons_zero, List.set_cons_succ]
  refine run_ok tok 400 _ _ ?_; simp only [↓reduceIte, run_opsNil, run_op, run_skip, run_seq, run_block, run_cond, run_exit, run_ret, run_region, dop, ev, put, told, exitT, dBin, dIndexAddr, dLen, dBuiltin, dLoad, Row.z, Row.n, Row.at, Ent.m, Ent.row, look, pureP, pureO, tab, TK.agg, List.getD_cons_zero, List.getD_cons_succ, List.set_cons_zero, List.set_cons_succ, Option.map_some, Option.join_some, List.getElem?_cons_zero, true_and, and_true, List.drop_zero, List.take_succ_cons, List.take_nil, List.map_cons, List.map_nil, Nat.reduceLeDiff, Nat.lt_add_one, true_or, Nat.zero_add, Int.toNat_natCast, Nat.reduceEqDiff]
  refine ⟨fun h => ?_, fun h => ?_⟩ <;> try simp only [decide_eq_true_eq, decide_eq_false_iff_not] at h
  · have hw : IntKind.i64.wrap ((k : Int) + 1) = ((k + 1 : Nat) : Int) := by rw [IntKind.wrap_i64]; omega
    refine ⟨⟨by omega, by omega⟩, by omega, ?_⟩
    refine D.call Tryz.func75 [(1, 0)] (t75 n len v k (by omega) (hl k (by omega)) (a k) (b k) (c k)) ?_
    simp only [↓reduceIte, callP, callOk, wOk, jsOf, noW, fstNodup, allW, sig, sigma, renV, renE, renL, afterH, backH, Row.ren, Ent.ren, capV, cV, cE, cL, cLs, cVs, cView, cEnt, cRow, ev, look, Row.z, Row.n, Row.at, Ent.w, Ent.m, Ent.row, put, List.lookup_nil, Bool.or_true, Bool.or_false, Bool.and_true, Bool.and_false, Bool.not_false, beq_self_eq_true, List.any_nil, List.all_cons, List.all_nil, List.getD_cons_zero, List.getD_cons_succ, List.set_cons_zero, List.set_cons_succ, List.getElem?_cons_zero, List.getElem?_cons_succ, List.length_cons, List.length_nil, List.drop_zero, List.drop_succ_cons, List.map_cons, List.map_nil, List.cons_append, List.nil_append, List.append_nil, Option.map_some, Option.join_some, Nat.reduceAdd, Nat.reduceSub, Nat.reduceLT, Nat.lt_add_one, Nat.add_zero, Nat.zero_add, Nat.le_refl, decide_true, true_and, and_true, and_self, implies_true, imp_self, Bool.false_eq_true, Nat.lt_irrefl]
    refine D.push 3 4 k _ _ rfl rfl (by decide) ?_
    simp only [pushH, pushR, ↓reduceIte, renV, renE, renL, Row.ren, Ent.ren, List.set_cons_zero, List.set_cons_succ, List.length_cons, List.length_nil, List.map_cons, List.map_nil, List.cons_append, List.nil_append, Option.map_some, Nat.reduceAdd, Nat.reduceEqDiff, Nat.add_zero, Nat.zero_add, reduceCtorEq]
    refine run_ok tok 400 _ _ ?_; simp only [↓reduceIte, run_blk, run_back, run_opsNil, run_op, run_region, dop, ev, ofV, ofLeaf, put, dBin, dIndexAddr, dStore, splice, cellsOf, DV.leaf, Row.z, Row.n, Row.at, Row.upd, Ent.w, Ent.m, Ent.row, Ent.upd, look, pureP, tab, List.getD_cons_zero, List.getD_cons_succ, List.set_cons_zero, List.set_cons_succ, Option.map_some, Option.join_some, List.getElem?_cons_zero, List.getElem?_cons_succ, true_and, and_true, List.length_cons, List.length_nil, Nat.reduceAdd, List.nil_append, List.append_nil, List.drop_succ_cons, List.drop_nil, List.take_zero, List.map_cons, List.map_nil, List.all_cons, List.all_nil, Bool.and_self, Nat.lt_irrefl, Nat.reduceLeDiff, Nat.zero_lt_succ, Nat.lt_add_one, Nat.zero_add, Int.toNat_natCast]
    refine ⟨⟨by omega, by omega⟩, ?_⟩
    refine ⟨by omega, k + 1, [(0, 0), (1, 0), (2, 0), (5, 0)], by omega, by omega, ?_⟩
    simp (config := {contextual := true}) [idTo, noW, fstNodup, cV, cE, cL, cLs, cVs, cView, cEnt, cRow, look, Row.z, Row.n, Row.at, Ent.w, Ent.m, Ent.row, lessP, hw]
    refine ⟨fun i hi => ?_, fun q hq => ?_⟩
    · by_cases h1 : i = k
      · subst h1
        simp [cLs, cL]
      · by_cases h2 : i < k
        · rw [if_neg h1, if_pos h2, if_pos (by omega)]
          simp [renL, pushR, cLs, cL, h2]
        · rw [if_neg h1, if_neg h2, if_neg (by omega)]
          simp [renL, cLs, cL]
    · by_cases h2 : q < k
      · simp [h2, cLs, cL]
      · obtain rfl : q = k := by omega
        simp [cLs, cL]
  · obtain rfl : k = n := by omega
    refine Out.of [(0, 0), (1, 0), (2, 0), (3, 0)] ?_; simp (config := {contextual := true}) [outP, outOf, resL, idTo, noW, fstNodup, cV, cE, cL, cLs, cView, cEnt, cRow, look, Row.z, Row.n, Row.at, Ent.w, Ent.m, Ent.row]
end Go.Proofs.YtjdglheacigbnaaGreatE
