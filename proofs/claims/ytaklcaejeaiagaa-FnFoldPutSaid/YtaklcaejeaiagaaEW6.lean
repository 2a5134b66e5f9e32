/- A part of the proof of a law of the given program: contracts of functions. No condition of its own. -/
import Derived.Test.YtaklcaejeaiagaaES10
import Derived.Test.YtaklcaejeaiagaaECU2
namespace Go.Proofs.YtaklcaejeaiagaaE
open Go.Proofs Go.Shelf Go.RowKit
set_option maxRecDepth 100000
/-! ### an empty list sorted -/
theorem t1200 : Tri Try.prog 120 [.int .u64 0] [] (.i64 0) [] := by
  intro μ w cargs hH ha
  obtain ⟨L⟩ := cargs
  match L, ha with
  | [v], ha =>
    have hv : v = .int .u64 0 := ha.1
    subst hv
    have h := Any.bits_Len (SlLaysF0.n15.bits (P := Try.prog) (ρ := layF_ren) { layF with }) 0 w (by omega) (by omega)
    refine (show Calls Try.prog 120 #[.int .u64 0] w _ from h).mono fun e w' he => ?_
    obtain ⟨h1, h2⟩ := he
    subst h2
    exact ⟨μ, _, h1, rfl, Step.refl hH⟩
theorem t1520 (p : Nat) (c : FuncId) (F : Nat → List DV) : Tri Try.prog 152 [.sl 0 0 0 0 p, .i64 0, .i64 0, .fn c []] [some (.one true (.arr 2 0 F))] (.tup []) [some (.one true (.arr 2 0 F))] := by
  have hw1 : IntKind.i64.wrap 1 = 1 := by decide
  refine Tri.of tok Try.func152 rfl ?_; simp only [Try.ntmps152, Try.results152, List.length_cons, List.length_nil, Nat.reduceAdd, Nat.reduceSub, List.replicate_succ, List.replicate_zero, List.cons_append, List.nil_append]; refine run_ok tok 400 _ _ ?_; simp only [↓reduceIte, run_opsNil, run_op, run_seq, run_block, run_region, run_loop, dop, ev, ofV, ofLeaf, put, dBin, pureP, List.getD_cons_zero, List.getD_cons_succ, List.set_cons_zero, List.set_cons_succ, Option.map_some, true_and]
  refine D.loopI (fun k : Nat => ⟨rg 53 [(2, .i64 0), (8, .i64 1)], [some (.one true (.arr 2 0 F))]⟩) (fun k => k = 0) (fun k => 0) 0 [(0, 0)] rfl ?_ ?_
  · simp (config := {contextual := true}) [idTo, noW, fstNodup, cV, cE, cL, cLs, cVs, cView, cEnt, cRow, look, Row.z, Row.n, Row.at, Ent.w, Ent.m, Ent.row, lessP, rg, List.replicate_succ, hw1]
  intro k hk
  simp only [rg, List.replicate_succ, List.replicate_zero, List.set_cons_zero, List.set_cons_succ]
  refine run_ok tok 400 _ _ ?_; simp only [↓reduceIte, run_nil, run_opsNil, run_op, run_skip, run_seq, run_block, run_cond, run_exit, run_region, run_loop, dop, ev, put, told, exitT, dBin, pureP, List.getD_cons_zero, List.getD_cons_succ, List.set_cons_zero, List.set_cons_succ, Option.map_some, true_and, Nat.lt_irrefl]
  simp only [decide_false, sel_false, Int.reduceLT]
  refine Out.of [(0, 0)] ?_; simp (config := {contextual := true}) [outP, outOf, resL, idTo, noW, fstNodup, cV, cEs, cLs, cView, cEnt, cRow, look, Row.z, Row.n, Row.at, Ent.w, Ent.m, Ent.row]
theorem t1270 (p : Nat) (c : FuncId) (F : Nat → List DV) : Tri Try.prog 127 [.sl 0 0 0 0 p, .i64 0, .i64 0, .i64 0, .fn c []] [some (.one true (.arr 2 0 F))] (.tup []) [some (.one true (.arr 2 0 F))] := by
  refine Tri.of tok Try.func127 rfl ?_; simp only [Try.ntmps127, Try.results127, List.length_cons, List.length_nil, Nat.reduceAdd, Nat.reduceSub, List.replicate_succ, List.replicate_zero, List.cons_append, List.nil_append]; refine run_ok tok 400 _ _ ?_; simp only [run_opsNil, run_op, run_seq, run_block, run_region, run_loop, dop, ev, ofV, ofLeaf, put, List.set_cons_zero, List.set_cons_succ, true_and]
  refine D.loopI (fun k : Nat => ⟨rg 148 [(0, .sl 0 0 0 0 p), (1, .i64 0), (2, .i64 0), (3, .i64 0), (4, .fn c [])], [some (.one true (.arr 2 0 F))]⟩) (fun k => k = 0) (fun k => 0) 0 [(0, 0)] rfl ?_ ?_
  · simp (config := {contextual := true}) [idTo, noW, fstNodup, cV, cE, cL, cLs, cVs, cView, cEnt, cRow, look, Row.z, Row.n, Row.at, Ent.w, Ent.m, Ent.row, lessP, rg, List.replicate_succ]
  intro k hk
  simp only [rg, List.replicate_succ, List.replicate_zero, List.set_cons_zero, List.set_cons_succ]
  have hw : IntKind.i64.wrap ((0 : Int) - 0) = 0 := by decide
  refine run_ok tok 400 _ _ ?_; simp only [↓reduceIte, run_opsNil, run_op, run_skip, run_seq, run_block, run_cond, run_region, dop, ev, ofV, ofLeaf, put, told, dBin, pureP, ↓sel_true, List.getD_cons_zero, List.getD_cons_succ, List.set_cons_zero, List.set_cons_succ, Option.map_some, true_and, Nat.lt_irrefl, decide_true]
  simp only [hw]
  simp only [decide_true, sel_true, Int.reduceLE]
  refine D.call Try.func152 [(0, 0)] (t1520 p c F) ?_; simp only [↓reduceIte, callP, callOk, wOk, jsOf, noW, fstNodup, allW, sig, renV, afterH, backH, Row.ren, Ent.ren, capV, cV, cE, cL, cVs, cView, cEnt, cRow, ev, look, Row.z, Row.n, Row.at, Ent.w, Ent.m, Ent.row, put, List.lookup_cons, Bool.or_true, Bool.and_true, Bool.not_true, Bool.not_false, beq_self_eq_true, List.any_nil, List.all_cons, List.all_nil, List.getD_cons_zero, List.getD_cons_succ, List.set_cons_zero, List.set_cons_succ, List.getElem?_cons_zero, List.length_cons, List.length_nil, List.drop_succ_cons, List.drop_nil, List.map_cons, List.map_nil, List.append_nil, Option.map_some, Option.join_some, Nat.lt_add_one, Nat.add_zero, Nat.zero_add, Nat.le_refl, Nat.not_lt_zero, decide_true, true_and, and_self, implies_true, false_implies]; refine run_ok tok 400 _ _ ?_; simp only [run_opsNil, run_ret]
  refine Out.of [(0, 0)] ?_; simp (config := {contextual := true}) [outP, outOf, resL, idTo, noW, fstNodup, cV, cEs, cLs, cView, cEnt, cRow, look, Row.z, Row.n, Row.at, Ent.w, Ent.m, Ent.row]
theorem t820 (p : Nat) (c : FuncId) (F : Nat → List DV) : Tri Try.prog 82 [.sl 0 0 0 0 p, .fn c []] [some (.one true (.arr 2 0 F))] (.tup []) [some (.one true (.arr 2 0 F))] := by
  have hw : IntKind.u64.wrap 0 = 0 := by decide
  refine Tri.of tok Try.func82 rfl ?_; simp only [Try.ntmps82, Try.results82, List.length_cons, List.length_nil, Nat.reduceAdd, Nat.reduceSub, List.replicate_succ, List.replicate_zero, List.cons_append, List.nil_append]; refine run_ok tok 400 _ _ ?_; simp only [run_opsNil, run_op, run_seq, run_region, dop, ev, put, dConv, dLen, dBuiltin, pureO, tab, List.getD_cons_zero, List.getD_cons_succ, List.set_cons_zero, List.set_cons_succ, Option.map_some, true_and, List.map_cons, List.map_nil]
  refine D.call Try.func120 [] t1200 ?_
  simp only [callP, callOk, wOk, jsOf, noW, fstNodup, allW, sig, renV, renE, renL, afterH, backH, capV, cV, cE, cL, cVs, cView, ev, Ent.w, put, List.lookup_nil, Bool.or_true, Bool.and_true, List.all_nil, List.getD_cons_zero, List.getD_cons_succ, List.set_cons_zero, List.set_cons_succ, List.length_cons, List.length_nil, List.drop_nil, List.map_cons, List.map_nil, List.append_nil, Nat.zero_add, decide_true, true_and, and_true]
  refine ⟨by decide, ?_⟩
  refine run_ok tok 400 _ _ ?_; simp only [run_op, dop, ev, put, List.getD_cons_zero, List.getD_cons_succ, List.set_cons_zero, List.set_cons_succ, true_and]
  refine D.call Try.func127 [(0, 0)] (t1270 p c F) ?_
  simp only [↓reduceIte, callP, callOk, wOk, jsOf, noW, fstNodup, allW, sig, renV, afterH, backH, Row.ren, Ent.ren, capV, cV, cE, cL, cVs, cView, cEnt, cRow, ev, ofV, ofLeaf, look, Row.z, Row.n, Row.at, Ent.w, Ent.m, Ent.row, put, List.lookup_cons, Bool.or_true, Bool.and_true, Bool.not_true, Bool.not_false, beq_self_eq_true, List.any_nil, List.all_cons, List.all_nil, List.getD_cons_zero, List.getD_cons_succ, List.set_cons_zero, List.set_cons_succ, List.getElem?_cons_zero, List.length_cons, List.length_nil, List.drop_succ_cons, List.drop_nil, List.map_cons, List.map_nil, List.append_nil, Option.map_some, Option.join_some, Nat.lt_add_one, Nat.add_zero, Nat.zero_add, Nat.le_refl, Nat.not_lt_zero, decide_true, true_and, and_true, and_self, implies_true, false_implies]
  refine ⟨rfl, ?_⟩
  refine run_ok tok 400 _ _ ?_; simp only [run_nil, run_opsNil]
  refine Out.of [(0, 0)] ?_; simp (config := {contextual := true}) [outP, outOf, resL, idTo, noW, fstNodup, cV, cEs, cLs, cView, cEnt, cRow, look, Row.z, Row.n, Row.at, Ent.w, Ent.m, Ent.row]
end Go.Proofs.YtaklcaejeaiagaaE
