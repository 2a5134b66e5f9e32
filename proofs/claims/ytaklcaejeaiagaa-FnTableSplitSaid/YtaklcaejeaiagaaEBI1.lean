/- A part of the proof of a law of the given program: contracts of functions. No condition of its own. -/
import Derived.Test.YtaklcaejeaiagaaEBT15
import Derived.Test.YtaklcaejeaiagaaEG5
namespace Go.Proofs.YtaklcaejeaiagaaE
open Go.Proofs
set_option maxRecDepth 100000
def insC (i : Nat) (x : Int) (f : Nat → Int) : Nat → Int := fun j => if j < i then f j else if j = i then x else f (j - 1)
set_option maxHeartbeats 8000000 in
theorem t48 (n p i : Nat) (hi : i ≤ n) (hn0 : 0 < n) (hn : n ≤ 1000) (a b c : Nat → Int) (x y z : Int) :
   Tri Try.prog 48 [.sl 0 0 0 n p, .i64 i, .sl 1 0 0 1 1] [some (.one true (.arr 3 n (row3 a b c))), some (.one true (.arr 3 1 (row3 (fun _ => x) (fun _ => y) (fun _ => z))))]
   (.sl 2 0 0 (n + 1) (n + 1)) [none, none, some (.one true (.arr 3 (n + 1) (row3 (insC i x a) (insC i y b) (insC i z c))))] := by
  have hw1 : IntKind.i64.wrap ((n : Int) + 1) = ((n + 1 : Nat) : Int) := by rw [IntKind.wrap_i64]; omega
  have hw2 : IntKind.i64.wrap (((n + 1 : Nat) : Int) - (i : Int)) = ((n + 1 - i : Nat) : Int) := by rw [IntKind.wrap_i64]; omega
  have hw3 : IntKind.i64.wrap ((i : Int) + ((1 : Nat) : Int)) = ((i + 1 : Nat) : Int) := by rw [IntKind.wrap_i64]; omega
  have hw4 : IntKind.i64.wrap ((n : Int) + ((1 : Nat) : Int)) = ((n + 1 : Nat) : Int) := by rw [IntKind.wrap_i64]; omega
  refine Tri.of tok Try.func48 rfl ?_; simp only [Try.ntmps48, Try.results48, List.length_cons, List.length_nil, Nat.reduceAdd, Nat.reduceSub, List.replicate_succ, List.replicate_zero, List.cons_append, List.nil_append]; refine run_ok tok 38 _ _ ?_; simp only [run_zero, ↓reduceIte, run_opsNil, run_op, run_skip, run_seq, run_cond, run_ret, run_region, dop, ev, ofV, ofLeaf, put, told, dBin, dSlice, dSliceL, dLen, dBuiltin, optMap, Row.z, Ent.m, Ent.row, look, pureP, pureO, tab, List.getD_cons_zero, List.getD_cons_succ, List.set_cons_zero, List.set_cons_succ, Option.map_some, Option.join_some, List.getElem?_cons_zero, true_and, List.map_cons, List.map_nil, Nat.lt_add_one, Nat.zero_add, Int.toNat_natCast]
  refine ⟨⟨by omega, by omega⟩, ?_⟩
  refine ⟨fun qz => ?_, fun qz => ?_⟩ <;> try simp only [decide_eq_true_eq, decide_eq_false_iff_not] at qz
  · omega
  refine ⟨fun q0 => ?_, fun q0 => ?_⟩ <;> try simp only [decide_eq_true_eq, decide_eq_false_iff_not] at q0
  · obtain rfl : i = n := by omega
    refine run_ok tok 400 _ _ ?_; simp only [run_opsNil, run_op, run_seq, run_ret, run_region, dop, ev, put, DV.leaf, Row.z, Row.n, Row.at, Ent.w, Ent.m, Ent.row, look, tab, List.getD_cons_zero, List.getD_cons_succ, List.set_cons_zero, List.set_cons_succ, Option.join_some, List.getElem?_cons_zero, List.getElem?_cons_succ, true_and, and_true, List.length_cons, List.length_nil, Nat.reduceAdd, List.cons_append, List.nil_append, List.map_cons, List.map_nil, List.all_cons, List.all_nil, Bool.and_self, Nat.reduceLeDiff, Nat.zero_lt_succ, Nat.lt_add_one, Nat.zero_add, dAppend, part, srcP, ownB, killX]
    refine ⟨⟨by omega, fun q hq => trivial, by omega, by omega⟩, ?_⟩
    refine Out.of [(0, 0), (1, 0), (2, 0)] ?_; simp (config := {contextual := true}) [le_capJ, outP, outOf, resL, idTo, noW, fstNodup, cV, cE, cL, cView, cEnt, cRow, look, Row.z, Row.n, Row.at, Ent.w, Ent.m, Ent.row]
    intro j hj
    by_cases h8 : j < i
    · simp [joined, h8, cLs, cL, insC]
    · obtain rfl : j = i := by omega
      simp [joined, cLs, cL, insC]
  have hin : i < n := by omega
  refine D.knows 0 rfl hn0 fun ad cc hc1 hc2 => ?_
  refine DK.skip (DK.seq (DK.seq (DK.region ?_)))
  refine DK.op [(0, .slice (some ad) n cc)] rfl (dop_ok (q := True) tok (by rfl) trivial) (by simp) ?_
  simp only [ev, put, List.getD_cons_zero, List.getD_cons_succ, List.set_cons_zero, List.set_cons_succ]
  refine DK.op [(0, .slice (some ad) n cc)] rfl (dop_ok (q := True) tok (by rfl) trivial) (by simp) ?_
  simp only [ev, put, List.getD_cons_zero, List.getD_cons_succ, List.set_cons_zero, List.set_cons_succ]
  refine DK.op [(0, .slice (some ad) n cc)] rfl (dop_ok (q := True) tok (by rfl) trivial) (by simp) ?_
  simp only [put, List.set_cons_zero, List.set_cons_succ]
  refine DK.move [(0, .slice (some ad) n cc)] List.mem_cons_self (by simp []) (by simp) ?_
  simp only [ev, put, List.getD_cons_zero, List.set_cons_zero, List.set_cons_succ]
  refine DK.capB tok [(0, .slice (some ad) n cc)] rfl List.mem_cons_self (by simp []) (by simp) ?_
  simp only [put, List.set_cons_zero, List.set_cons_succ]
  refine DK.op [(0, .slice (some ad) n cc)] rfl (dop_ok (q := True) tok (by rfl) trivial) (by simp) ?_
  simp only [put, List.set_cons_zero, List.set_cons_succ]
  refine DK.opsNil ?_
  refine DK.cond (b := decide ((cc : Int) < IntKind.i64.wrap ((n : Int) + 1))) (by rfl) (fun hb => ?_) (fun hb => ?_)
  · simp only [hw1, decide_eq_true_eq] at hb
    have hcn : cc = n := by omega
    have hsum : i + (n + 1 - i) = n + 1 := by omega
    refine DK.seq (DK.region ?_)
    refine DK.move [] List.mem_cons_self (by simp []) (by simp) ?_
    simp only [ev, put, List.getD_cons_zero, List.set_cons_zero, List.set_cons_succ]
    refine DK.op [(32, .slice (some ad) n cc)] rfl (dop_ok (q := True) tok (by rfl) trivial) (by simp) ?_
    simp only [ev, put, List.getD_cons_zero, List.getD_cons_succ, List.set_cons_zero, List.set_cons_succ]
    refine DK.slice (h0 := (i : Int)) tok [] rfl rfl List.mem_cons_self rfl rfl (by omega) (by omega) (by simp []) (by simp) ?_
    simp only [put, List.set_cons_zero, List.set_cons_succ]
    simp only [Int.toNat_natCast]
    refine DK.op [(34, .slice (some ad) i cc)] rfl (dop_ok (q := True) tok (by rfl) trivial) (by simp) ?_
    simp only [ev, put, List.getD_cons_zero, List.getD_cons_succ, List.set_cons_zero, List.set_cons_succ]
    refine DK.op [(34, .slice (some ad) i cc)] rfl (dop_ok (q := True) tok (by rfl) trivial) (by simp) ?_
    simp only [ev, put, List.getD_cons_zero, List.getD_cons_succ, List.set_cons_zero, List.set_cons_succ]
    refine DK.op [(34, .slice (some ad) i cc)] rfl (dop_ok (q := True) tok (by rfl) trivial) (by simp) ?_
    simp only [put, List.set_cons_zero, List.set_cons_succ]
    refine DK.op [(34, .slice (some ad) i cc)] rfl (dop_ok (q := True) tok (by rfl) trivial) (by simp) ?_
    simp only [ev, put, List.getD_cons_zero, List.getD_cons_succ, List.set_cons_zero, List.set_cons_succ]
    refine DK.op [(34, .slice (some ad) i cc)] rfl (dop_ok (q := True) tok (by rfl) trivial) (by simp) ?_
    simp only [put, List.set_cons_zero, List.set_cons_succ]
    refine DK.appendZ (k2 := n + 1 - i) tok rfl rfl rfl (by decide) List.mem_cons_self rfl rfl ?_ (by show DV.int .i64 (IntKind.i64.wrap (IntKind.i64.wrap ((n : Int) + 1) - (i : Int))) = _; rw [hw1, hw2]) (by omega) (by omega) (by show (i + (n + 1 - i)) * 24 ≤ 140737488355328; omega) (by omega) ?_
    · exact ⟨Nat.zero_lt_one, by show 0 + i ≤ n; omega, rfl⟩
    simp only [hsum]
    simp only [Row.at, Ent.row, put, List.set_cons_zero, List.set_cons_succ, List.length_cons, List.length_nil, List.cons_append, List.nil_append, Nat.reduceAdd, Nat.zero_add]
    refine run_ok tok 400 _ _ ?_; simp only [run_opsNil, run_op, run_seq, run_region, dop, ev, put, dSlice, dSliceL, dBuiltin, optMap, Row.z, Ent.m, Ent.row, look, pureP, pureO, tab, List.getD_cons_zero, List.getD_cons_succ, List.set_cons_zero, List.set_cons_succ, Option.map_some, Option.map_none, Option.join_some, List.getElem?_cons_zero, List.getElem?_cons_succ, true_and, Nat.lt_add_one, Nat.zero_add, Int.toNat_natCast]
    refine ⟨⟨by omega, by omega⟩, ?_⟩
    refine D.op rfl (OpT.copy (m := 1) tok rfl rfl (by decide) rfl rfl rfl rfl ⟨Nat.zero_lt_one, by show 0 + 1 ≤ 1; omega, rfl⟩ (Nat.min_eq_left (by omega)).symm (by show i + 1 ≤ n + 1; omega) (by omega) (fun k hk => rfl)) ?_
    simp only [copied]
    simp only [Row.z, Row.n, Row.at, Ent.row, put, List.set_cons_zero, List.set_cons_succ, Nat.zero_add]
    refine run_ok tok 400 _ _ ?_; simp only [run_opsNil, run_seq, run_drawn]
    refine D.draw1 (by rfl) [[], [], [], [1, 2], [0, 1, 2, 3], [], [], [5, 6], [0, 1, 2, 3, 4, 5, 6, 7]] (by simp only [List.length_cons, List.length_nil, Nat.reduceAdd, Nat.reduceLeDiff]) ?_; refine runD_ok (A := [[], [], [], [1, 2], [0, 1, 2, 3], [], [], [5, 6], [0, 1, 2, 3, 4, 5, 6, 7]]) (ws := [(8, [2])]) (n0 := 3) tok 0 _ _ _ _ rfl ?_; simp only [runD_op, obl, newX, wokB, seenOpts, seenV, seenE, seenL, xOf, wX, Wof, upto, maskH, merge, mergeH, Ent.flag, allW, List.contains_nil, List.contains_cons, List.lookup_nil, List.lookup_cons, Bool.or_false, Bool.or_true, Bool.and_true, Bool.and_false, Bool.not_true, Bool.not_false, Nat.reduceBEq, Nat.sub_self, Nat.le_refl, beq_self_eq_true, and_self, true_and, Nat.reduceMod, ↓reduceIte, dop, ev, put, dBin, dSlice, dSliceL, dBuiltin, optMap, Row.z, Ent.w, Ent.m, Ent.row, look, pureP, pureO, Bool.not_true, Bool.not_false, tab, List.getD_cons_zero, List.getD_cons_succ, List.set_cons_zero, List.set_cons_succ, Option.map_some, Option.map_none, Option.join_some, List.getElem?_cons_zero, List.getElem?_cons_succ, Bool.false_eq_true, true_and, List.length_cons, List.length_nil, Nat.reduceAdd, List.cons_append, List.nil_append, List.append_nil, List.drop_succ_cons, List.drop_nil, List.map_nil, List.all_nil, Bool.and_true, Bool.and_self, Nat.lt_irrefl, Nat.reduceLT, Nat.zero_lt_succ, Nat.lt_add_one, Nat.zero_add, decide_true, decide_false, Int.toNat_natCast]
    simp only [hw3, Int.toNat_natCast]
    refine ⟨⟨by omega, by omega⟩, ⟨by omega, by omega⟩, ?_⟩
    refine Dr.copy tok [[], [], [], [1, 2], [0, 1, 2, 3], [], [], [5, 6], [0, 1, 2, 3, 4, 5, 6, 7]] [(8, [2])] 3 (m := n - i) rfl rfl (by decide) rfl rfl rfl rfl ⟨Nat.zero_lt_one, by show i + (n - i) ≤ n; omega, rfl⟩ (by show n - i = Nat.min (n - i) (n + 1 - (i + 1)); rw [show n + 1 - (i + 1) = n - i by omega]; exact (Nat.min_self _).symm) (by show i + 1 + (n - i) ≤ n + 1; omega) (by omega) (fun k hk => rfl) (by rfl) ?_; simp only [copied, ↓reduceIte, allW, look, Row.z, Row.n, Row.at, Ent.w, Ent.m, Ent.row, put, List.lookup_cons, Bool.or_true, Bool.or_false, Bool.and_true, Bool.not_false, beq_self_eq_true, List.all_nil, List.getD_cons_zero, List.getD_cons_succ, List.set_cons_zero, List.set_cons_succ, List.getElem?_cons_zero, List.getElem?_cons_succ, List.length_cons, List.length_nil, List.drop_succ_cons, List.drop_nil, List.map_cons, List.map_nil, List.cons_append, List.nil_append, List.append_nil, Option.map_some, Option.join_some, Nat.reduceAdd, Nat.reduceBEq, Nat.zero_add, Nat.le_refl, decide_true, decide_false, true_and, and_true, Bool.false_eq_true, Nat.lt_irrefl, obl, newX, wokB, seenOpts, seenEnt, seenV, seenE, seenL, seenRow, xOf, wX, Wof, maskH, merge, mergeH, Ent.flag, allW, List.contains_nil, List.contains_cons, List.lookup_cons, Bool.or_false, Bool.or_true, Bool.and_true, Bool.not_false, Nat.reduceBEq, Nat.le_refl, beq_self_eq_true, and_true, true_and, Nat.reduceMod, ↓reduceIte, put, Row.z, Row.n, Row.at, Ent.w, Ent.m, Ent.row, look, Bool.not_false, List.getD_cons_zero, List.getD_cons_succ, List.set_cons_zero, List.set_cons_succ, Option.map_some, Option.join_some, List.getElem?_cons_zero, List.getElem?_cons_succ, Bool.false_eq_true, true_and, and_true, List.length_cons, List.length_nil, Nat.reduceAdd, List.cons_append, List.nil_append, List.append_nil, List.drop_succ_cons, List.drop_nil, List.map_cons, List.map_nil, List.all_nil, Bool.and_true, Bool.and_self, Nat.lt_irrefl, Nat.zero_add, decide_true, decide_false]
    refine ⟨fun k hk d hd => by (simp only [joined] at hd); (repeat' split at hd) <;> simp only [row3, List.mem_cons, List.not_mem_nil, or_false] at hd <;> rcases hd with rfl | rfl | rfl <;> trivial, ?_⟩
    refine runD_ok (A := [[], [], [], [1, 2], [0, 1, 2, 3], [], [], [5, 6], [0, 1, 2, 3, 4, 5, 6, 7]]) (ws := [(8, [2])]) (n0 := 3) tok _ _ _ _ _ rfl ?_; simp only [runD_nil]
    refine ⟨by rfl, ?_⟩
    refine run_ok tok 400 _ _ ?_; simp only [run_opsNil, run_op, run_seq, run_ret, run_region, dop, ev, put, List.getD_cons_zero, List.getD_cons_succ, List.set_cons_zero, List.set_cons_succ, true_and]
    refine Out.of [(0, 0), (1, 0), (2, 0)] ?_; simp (config := {contextual := true}) [outP, outOf, resL, idTo, noW, fstNodup, cV, cE, cL, cView, cEnt, cRow, look, Row.z, Row.n, Row.at, Ent.w, Ent.m, Ent.row]
    intro j hj
    by_cases h8 : j < i
    · have e1 : ¬ i + 1 ≤ j := by omega
      have e2 : ¬ i ≤ j := by omega
      simp [joined, h8, e1, e2, cLs, cL, insC]
    · by_cases h9 : j = i
      · subst h9
        have e1 : ¬ j + 1 ≤ j := by omega
        simp [e1, cLs, cL, insC]
      · have e1 : i + 1 ≤ j := by omega
        have e2 : j < i + 1 + (n - i) := by omega
        have e3 : i + (j - (i + 1)) = j - 1 := by omega
        simp [e1, e2, e3, h8, h9, cLs, cL, insC]
  · simp only [hw1, decide_eq_false_iff_not] at hb
    have hcn : n + 1 ≤ cc := by omega
    refine DK.skip (DK.cap 0 rfl List.mem_cons_self ?_)
    simp only [List.set_cons_zero]
    refine D.room (n' := n + 1) 0 rfl rfl (by omega) (by omega) ?_
    rw [show roomy (.arr 3 n (row3 a b c)) (n + 1) = .arr 3 (n + 1) (fun j => if j < n then row3 a b c j else [.any, .any, .any]) from rfl]
    simp only [List.set_cons_zero]
    refine run_ok tok 400 _ _ ?_; simp only [↓reduceIte, run_opsNil, run_op, run_seq, run_region, dop, ev, put, dBin, dSlice, dSliceL, optMap, Row.z, Ent.m, Ent.row, look, pureP, tab, List.getD_cons_zero, List.getD_cons_succ, List.set_cons_zero, List.set_cons_succ, Option.map_some, Option.join_some, List.getElem?_cons_zero, true_and, Nat.lt_add_one, Nat.zero_add]
    simp only [hw3, hw4, Int.toNat_natCast]
    refine ⟨⟨by omega, .inr (by omega)⟩, ⟨by omega, by omega⟩, ?_⟩
    refine D.op rfl (OpT.overlaps (tS := 26) (tR := 4) tok Try.func96 (by kernel_rfl) (by kernel_rfl) (by kernel_rfl) (by kernel_rfl) rfl rfl (by decide) rfl rfl (by omega) (by omega) (by decide) rfl rfl rfl) ?_
    simp only [put, List.set_cons_zero, List.set_cons_succ]
    refine run_ok tok 400 _ _ ?_; simp only [run_opsNil, run_op, run_seq, run_cond, run_drawn, dop, ev, put, told, dUn, pureO, Bool.not_false, ↓sel_true, List.getD_cons_zero, List.getD_cons_succ, List.set_cons_zero, List.set_cons_succ, Option.map_some, true_and]
    try simp only [ne_eq, not_true_eq_false, not_false_eq_true, decide_false, decide_true, sel_false, sel_true, Int.lt_irrefl, Int.reduceLT, Int.reduceLE, Int.reduceEq, Int.reduceNe, beq_self_eq_true, Bool.not_true, Bool.not_false, Bool.false_eq_true, Nat.lt_irrefl]
    refine D.draw1 (by rfl) [[], [], [], [1, 2], [0, 1, 2, 3], [], [], [5, 6], [0, 1, 2, 3, 4, 5, 6, 7]] (by simp only [List.length_cons, List.length_nil, Nat.reduceAdd, Nat.reduceLeDiff]) ?_; refine runD_ok (A := [[], [], [], [1, 2], [0, 1, 2, 3], [], [], [5, 6], [0, 1, 2, 3, 4, 5, 6, 7]]) (ws := [(8, [0])]) (n0 := 2) tok 0 _ _ _ _ rfl ?_; simp only [runD_op, obl, newX, wokB, seenOpts, seenV, seenE, seenL, xOf, wX, Wof, upto, maskH, merge, mergeH, Ent.flag, allW, List.contains_nil, List.contains_cons, List.lookup_nil, List.lookup_cons, Bool.or_false, Bool.or_true, Bool.and_true, Bool.and_false, Bool.not_true, Bool.not_false, Nat.reduceBEq, Nat.sub_self, Nat.le_refl, beq_self_eq_true, and_self, true_and, Nat.reduceMod, ↓reduceIte, dop, ev, put, dBin, dSlice, dSliceL, dBuiltin, optMap, Row.z, Ent.w, Ent.m, Ent.row, look, pureP, pureO, Bool.not_true, Bool.not_false, tab, List.getD_cons_zero, List.getD_cons_succ, List.set_cons_zero, List.set_cons_succ, Option.map_some, Option.map_none, Option.join_some, List.getElem?_cons_zero, Bool.false_eq_true, true_and, List.length_cons, List.length_nil, Nat.reduceAdd, List.cons_append, List.nil_append, List.append_nil, List.drop_succ_cons, List.drop_nil, List.map_nil, List.all_nil, Bool.and_true, Bool.and_self, Nat.lt_irrefl, Nat.reduceLT, Nat.zero_lt_succ, Nat.lt_add_one, Nat.zero_add, decide_true, decide_false, Int.toNat_natCast]
    simp only [hw3, Int.toNat_natCast]
    refine ⟨⟨by omega, by omega⟩, ⟨by omega, by omega⟩, ?_⟩
    refine Dr.copy tok [[], [], [], [1, 2], [0, 1, 2, 3], [], [], [5, 6], [0, 1, 2, 3, 4, 5, 6, 7]] [(8, [0])] 2 (m := n - i) rfl rfl (by decide) rfl rfl rfl rfl ⟨Nat.zero_lt_one, by show i + (n + 1 - i) ≤ n + 1; omega, rfl⟩ (by show n - i = Nat.min (n + 1 - i) (n + 1 - (i + 1)); rw [show n + 1 - (i + 1) = n - i by omega]; exact (Nat.min_eq_right (by omega)).symm) (by show i + 1 + (n - i) ≤ n + 1; omega) (by omega) (fun k hk => by show (if i + k < n then row3 a b c (i + k) else _).all _ = true; rw [if_pos (by omega)]; rfl) (by rfl) ?_; simp only [copied, ↓reduceIte, allW, look, Row.z, Row.n, Row.at, Ent.w, Ent.m, Ent.row, put, List.lookup_cons, Bool.or_true, Bool.or_false, Bool.and_true, Bool.not_false, beq_self_eq_true, List.all_nil, List.getD_cons_zero, List.getD_cons_succ, List.set_cons_zero, List.set_cons_succ, List.getElem?_cons_zero, List.length_cons, List.length_nil, List.drop_succ_cons, List.drop_nil, List.map_cons, List.map_nil, List.cons_append, List.nil_append, List.append_nil, Option.map_some, Option.join_some, Nat.reduceAdd, Nat.reduceBEq, Nat.zero_add, Nat.le_refl, decide_true, decide_false, true_and, and_true, Bool.false_eq_true, Nat.lt_irrefl, obl, newX, wokB, seenOpts, seenEnt, seenV, seenE, seenL, seenRow, xOf, wX, Wof, maskH, merge, mergeH, Ent.flag, allW, List.contains_nil, List.contains_cons, List.lookup_cons, Bool.or_false, Bool.or_true, Bool.and_true, Bool.not_false, Nat.reduceBEq, Nat.le_refl, beq_self_eq_true, and_true, true_and, Nat.reduceMod, ↓reduceIte, put, Row.z, Row.n, Row.at, Ent.w, Ent.m, Ent.row, look, Bool.not_false, List.getD_cons_zero, List.getD_cons_succ, List.set_cons_zero, List.set_cons_succ, Option.map_some, Option.join_some, List.getElem?_cons_zero, Bool.false_eq_true, true_and, and_true, List.length_cons, List.length_nil, Nat.reduceAdd, List.cons_append, List.nil_append, List.append_nil, List.drop_succ_cons, List.drop_nil, List.map_cons, List.map_nil, List.all_nil, Bool.and_true, Bool.and_self, Nat.lt_irrefl, Nat.zero_add, decide_true, decide_false]
    refine ⟨fun k hk d hd => ?_, ?_⟩
    · by_cases e1 : i + 1 ≤ k ∧ k < i + 1 + (n - i)
      · have e2 : i + (k - (i + 1)) < n := by omega
        rw [if_pos e1, if_pos e2] at hd
        simp only [row3, List.mem_cons, List.not_mem_nil, or_false] at hd
        rcases hd with rfl | rfl | rfl <;> trivial
      · have e2 : k < n := by omega
        rw [if_neg e1, if_pos e2] at hd
        simp only [row3, List.mem_cons, List.not_mem_nil, or_false] at hd
        rcases hd with rfl | rfl | rfl <;> trivial
    refine runD_ok (A := [[], [], [], [1, 2], [0, 1, 2, 3], [], [], [5, 6], [0, 1, 2, 3, 4, 5, 6, 7]]) (ws := [(8, [0])]) (n0 := 2) tok _ _ _ _ _ rfl ?_; simp only [runD_nil]
    refine ⟨by rfl, ?_⟩
    refine run_ok tok 400 _ _ ?_; simp only [run_op, run_seq, run_region, dop, ev, put, dSlice, dSliceL, dBuiltin, optMap, Row.z, Ent.m, Ent.row, look, pureP, pureO, tab, List.getD_cons_zero, List.getD_cons_succ, List.set_cons_zero, List.set_cons_succ, Option.map_some, Option.map_none, Option.join_some, List.getElem?_cons_zero, true_and, Nat.lt_add_one, Nat.zero_add, Int.toNat_natCast]
    refine ⟨⟨by omega, by omega⟩, ?_⟩
    refine D.op rfl (OpT.copy (m := 1) tok rfl rfl (by decide) rfl rfl rfl rfl ⟨Nat.zero_lt_one, by show 0 + 1 ≤ 1; omega, rfl⟩ (Nat.min_eq_left (by omega)).symm (by show i + 1 ≤ n + 1; omega) (by omega) (fun k hk => rfl)) ?_
    simp only [copied]
    simp only [Row.z, Row.n, Row.at, Ent.row, put, List.set_cons_zero, List.set_cons_succ, Nat.zero_add]
    refine D.renum 0 rfl rfl ?_
    simp only [List.set_cons_zero, List.length_cons, List.length_nil, List.cons_append, List.nil_append, Nat.reduceAdd, Nat.zero_add]
    refine run_ok tok 400 _ _ ?_; simp only [run_opsNil, run_op, run_seq, run_ret, run_region, dop, ev, put, List.getD_cons_zero, List.getD_cons_succ, List.set_cons_zero, List.set_cons_succ, true_and]
    refine Out.of [(0, 0), (1, 0), (2, 0)] ?_; simp (config := {contextual := true}) [outP, outOf, resL, idTo, noW, fstNodup, cV, cE, cL, cView, cEnt, cRow, look, Row.z, Row.n, Row.at, Ent.w, Ent.m, Ent.row]
    refine ⟨by omega, fun j hj => ?_⟩
    by_cases h8 : j < i
    · have e1 : ¬ i + 1 ≤ j := by omega
      have e2 : ¬ i ≤ j := by omega
      have e3 : j < n := by omega
      simp [h8, e1, e2, e3, cLs, cL, insC]
    · by_cases h9 : j = i
      · subst h9
        have e1 : ¬ j + 1 ≤ j := by omega
        simp [cLs, cL, insC]
      · have e1 : i + 1 ≤ j := by omega
        have e2 : j < i + 1 + (n - i) := by omega
        have e3 : i + (j - (i + 1)) = j - 1 := by omega
        have e4 : j - 1 < n := by omega
        have e5 : ¬ j < i + 1 := by omega
        simp [e1, e2, e3, e4, e5, h8, h9, cLs, cL, insC]
end Go.Proofs.YtaklcaejeaiagaaE
