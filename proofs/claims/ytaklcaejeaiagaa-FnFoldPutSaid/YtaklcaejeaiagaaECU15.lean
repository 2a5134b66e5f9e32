/- A part of the proof of a law of the given program: contracts of functions. No condition of its own. -/
import Derived.Test.YtaklcaejeaiagaaECU14
import Derived.Test.YtaklcaejeaiagaaEG4
namespace Go.Proofs.YtaklcaejeaiagaaE
open Go.Proofs
set_option maxRecDepth 100000
def LL (L0 : Nat) : Nat := min L0 2000
theorem LL_le (L0 : Nat) : LL L0 ≤ L0 := by unfold LL; omega
theorem LL_2 (L0 : Nat) : LL L0 ≤ 2000 := by unfold LL; omega
theorem t52 (L0 cap : Nat) (x : Nat → Int) : Tri Try.prog 52 [.sl 0 0 0 L0 cap] [some (.one false (.arr 1 L0 (rowB x)))]
   (.ptr 1 0 0 0) [some (.one false (.arr 1 L0 (rowB x))), some (.one true (.lst 2 [[.sl 0 0 0 (LL L0) 0, .i64 (0 : Nat)]]))] := by
  refine Tri.of tok Try.func52 rfl ?_; simp only [Try.ntmps52, Try.results52, List.length_cons, List.length_nil, Nat.reduceAdd, Nat.reduceSub, List.replicate_succ, List.replicate_zero, List.cons_append, List.nil_append]; refine run_ok tok 400 _ _ ?_; simp only [↓reduceIte, Int.reduceToNat, run_opsNil, run_op, run_skip, run_seq, run_cond, run_ret, run_region, dop, ev, ofV, ofLeaf, put, told, dBin, dSlice, dSliceL, dLen, dBuiltin, dBox, dBuild, dFill, newRow1, optMap, splice, cellsOf, DV.leaf, pureP, pureO, newP, tab, List.getD_cons_zero, List.getD_cons_succ, List.set_cons_zero, List.set_cons_succ, Option.map_some, Option.bind_some, List.getElem?_cons_zero, true_and, and_true, List.length_cons, List.length_nil, Nat.reduceAdd, List.cons_append, List.nil_append, List.drop_zero, List.drop_succ_cons, List.take_zero, List.map_cons, List.map_nil, List.all_cons, List.all_nil, Bool.and_self, Nat.reduceLeDiff, Nat.zero_add, Option.isSome_some]
  refine ⟨fun h => ?_, fun h => ?_⟩ <;> try simp only [decide_eq_true_eq, decide_eq_false_iff_not] at h
  · have h1 : LL L0 = 2000 := by unfold LL; omega
    rw [h1]
    refine ⟨⟨by omega, by omega⟩, ?_⟩
    refine Out.of [(0, 0), (1, 0)] ?_; simp (config := {contextual := true}) [outP, outOf, resL, idTo, noW, fstNodup, cV, cE, cL, cLs, cView, cEnt, cRow, cEls, look, Row.z, Row.n, Row.at, Ent.w, Ent.m, Ent.row]
  · have h1 : LL L0 = L0 := by unfold LL; omega
    rw [h1]
    refine Out.of [(0, 0), (1, 0)] ?_; simp (config := {contextual := true}) [outP, outOf, resL, idTo, noW, fstNodup, cV, cE, cL, cLs, cView, cEnt, cRow, cEls, look, Row.z, Row.n, Row.at, Ent.w, Ent.m, Ent.row]
/-- the reader: its bytes and its place. -/
abbrev rdB (L cap : Nat) (k : Nat) : Option Ent := some (.one true (.lst 2 [[.sl 0 0 0 L cap, .i64 k]]))
abbrev simB : Option Ent := some (.one false (.lst 6 [[.ptr 1 0 0 0, .any, .any, .any, .any, .any]]))
def keyV (L : Nat) (x : Nat → Int) (k : Nat) : Int := [0, 1, 2, 19, 20, 21, 30, 39, pk L x k 40].getD (pk L x (k + 1) 9).toNat 0
end Go.Proofs.YtaklcaejeaiagaaE
