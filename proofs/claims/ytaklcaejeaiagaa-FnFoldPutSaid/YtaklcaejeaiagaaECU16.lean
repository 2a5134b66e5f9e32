/- A part of the proof of a law of the given program: contracts of functions. No condition of its own. -/
import Derived.Test.YtaklcaejeaiagaaECU2
import Derived.Test.YtaklcaejeaiagaaEG4
namespace Go.Proofs.YtaklcaejeaiagaaE
open Go.Proofs
set_option maxRecDepth 100000
/-- A list of numbers, as a row. -/
abbrev rowI (l : List Int) : Nat → List DV := fun i => [.i64 (l.getD i 0)]
def addStep (key : Int) (s : List Int × Bool) (x : Int) : List Int × Bool :=
  (if x ≠ key then (if s.2 = false ∧ key ≤ x then s.1 ++ [key] else s.1) ++ [x] else (if s.2 = false ∧ key ≤ x then s.1 ++ [key] else s.1), s.2 || decide (key ≤ x))
def addAll (key : Int) (l : List Int) : List Int × Bool := l.foldl (addStep key) ([], false)
def addL (key : Int) (l : List Int) : List Int := if (addAll key l).2 then (addAll key l).1 else (addAll key l).1 ++ [key]
theorem addAll_snoc (key x : Int) (l : List Int) : addAll key (l ++ [x]) = addStep key (addAll key l) x := by simp [addAll]
theorem addAll_take (key : Int) (l : List Int) (i : Nat) (hi : i < l.length) : addAll key (l.take (i + 1)) = addStep key (addAll key (l.take i)) (l.getD i 0) := by
  rw [List.take_succ_eq_append_getElem hi, addAll_snoc]
  congr 1
  simp [List.getD_eq_getElem?_getD, hi]
theorem addStep_len (key x : Int) (s : List Int × Bool) : (addStep key s x).1.length + (!(addStep key s x).2).toNat ≤ s.1.length + (!s.2).toNat + 1 := by
  obtain ⟨l, b⟩ := s
  by_cases h1 : key ≤ x <;> by_cases h2 : x = key <;> cases b <;> simp [addStep, h1, h2] <;> omega
theorem addFold_len (key : Int) : ∀ (l : List Int) (s : List Int × Bool), (l.foldl (addStep key) s).1.length + (!(l.foldl (addStep key) s).2).toNat ≤ s.1.length + (!s.2).toNat + l.length
  | [], s => by simp
  | x :: l, s => by
    have h1 := addFold_len key l (addStep key s x)
    have h2 := addStep_len key x s
    simp only [List.foldl_cons, List.length_cons]
    omega
theorem addAll_len (key : Int) (l : List Int) : (addAll key l).1.length + (!(addAll key l).2).toNat ≤ l.length + 1 := by
  have := addFold_len key l ([], false)
  simp only [List.length_nil, Bool.not_false, Bool.toNat_true] at this
  unfold addAll
  omega
theorem addL_len (key : Int) (l : List Int) : (addL key l).length ≤ l.length + 1 := by
  have := addAll_len key l
  unfold addL
  split <;> simp_all
set_option maxHeartbeats 4000000 in
theorem t62 (l : List Int) (hl : l.length ≤ 1048576) (p : Nat) (key : Int) : Tri Try.prog 62 [.sl 0 0 0 l.length p, .i64 key] [some (.one false (.arr 1 l.length (rowI l)))]
   (.sl 1 0 0 (addL key l).length (addL key l).length) [some (.one false (.arr 1 l.length (rowI l))), some (.one true (.arr 1 (addL key l).length (rowI (addL key l))))] := by
  refine Tri.of tok Try.func62 rfl ?_; simp only [Try.ntmps62, Try.results62, List.length_cons, List.length_nil, Nat.reduceAdd, Nat.reduceSub, List.replicate_succ, List.replicate_zero, List.cons_append, List.nil_append]; refine run_ok tok 400 _ _ ?_; simp only [↓reduceIte, run_opsNil, run_op, run_seq, run_block, run_region, run_loop, dop, ev, ofV, ofLeaf, put, dBuildSlice, dElems, newRow1, newP, tab, List.getD_cons_zero, List.getD_cons_succ, List.set_cons_zero, List.set_cons_succ, Option.map_some, true_and, and_true, List.length_cons, List.length_nil, List.cons_append, List.nil_append, List.map_nil, Nat.lt_add_one, Nat.zero_add, List.replicate_zero, Nat.zero_mul, Nat.zero_le]
  refine D.loopI (fun i : Nat => ⟨rg 49 [(0, .sl 0 0 0 l.length p), (1, .i64 key), (5, .sl 1 0 0 (addAll key (l.take i)).1.length (addAll key (l.take i)).1.length), (6, .bool (addAll key (l.take i)).2), (7, .i64 i)], [some (.one false (.arr 1 l.length (rowI l))), some (.one true (.arr 1 (addAll key (l.take i)).1.length (rowI (addAll key (l.take i)).1)))]⟩) (fun i => i ≤ l.length) (fun i => l.length - i) 0 [(0, 0), (1, 0)] (Nat.zero_le _) ?_ ?_
  · simp (config := {contextual := true}) [idTo, noW, fstNodup, cV, cE, cL, cLs, cVs, cView, cEnt, cRow, look, Row.z, Row.n, Row.at, Ent.w, Ent.m, Ent.row, lessP, rg, List.replicate_succ, addAll]
  intro i hi
  have hlen := addAll_len key (l.take i)
  have hlt : (l.take i).length ≤ 1048576 := by rw [List.length_take]; omega
  simp only [rg, List.replicate_succ, List.replicate_zero, List.set_cons_zero, List.set_cons_succ]
  by_cases q : i < l.length
  · have hs := addAll_take key l i q
    have hlen2 := addAll_len key (l.take (i + 1))
    have hw : IntKind.i64.wrap ((i : Int) + 1) = ((i + 1 : Nat) : Int) := by rw [IntKind.wrap_i64]; omega
    generalize hS : addAll key (l.take i) = s at hlen hs ⊢
    obtain ⟨o, dn⟩ := s
    simp only at hlen ⊢
    generalize hX : l.getD i 0 = x at hs
    have hX2 : l[i]?.getD 0 = x := by rw [← hX, List.getD_eq_getElem?_getD]
    cases dn
    · refine run_ok tok 400 _ _ ?_; simp only [↓reduceIte, run_blk, run_back, run_opsNil, run_op, run_opT, run_skip, run_seq, run_block, run_cond, run_exit, run_ret, run_region, dop, ev, ofV, ofLeaf, put, told, yield, exitT, dBin, dUn, dIndexAddr, dLen, dBuiltin, dLoad, dBuildSlice, dElems, newRow1, cellsOf, DV.leaf, Row.z, Row.n, Row.at, Ent.w, Ent.m, Ent.row, look, pureP, pureO, newP, Bool.not_false, ↓sel_true, tab, TK.agg, List.getD_cons_zero, List.getD_cons_succ, List.set_cons_zero, List.set_cons_succ, Option.map_some, Option.bind_some, Option.join_some, List.getElem?_toArray, List.getElem?_cons_zero, List.getElem?_cons_succ, Bool.false_eq_true, true_and, and_true, List.length_cons, List.length_nil, Nat.reduceAdd, List.cons_append, List.nil_append, List.drop_zero, List.take_succ_cons, List.take_nil, List.headD_cons, List.map_cons, List.map_nil, List.all_cons, List.all_nil, Bool.and_self, Nat.reduceLeDiff, Nat.lt_add_one, or_true, Nat.zero_add, List.replicate_succ, List.replicate_zero, Int.toNat_natCast, dAppend, part, srcP, ownB, killX, Nat.reduceMul]
      refine ⟨fun q0 => ?_, fun q0 => ?_⟩ <;> try simp only [decide_eq_true_eq, decide_eq_false_iff_not] at q0
      · refine ⟨⟨by omega, by omega⟩, q, ?_⟩
        simp only [hX]
        refine ⟨fun q1 => ?_, fun q1 => ?_⟩ <;> try simp only [decide_eq_true_eq, decide_eq_false_iff_not] at q1
        · refine ⟨⟨by omega, fun q hq => by (obtain rfl : q = 0 := by omega); rfl, by omega, by omega⟩, ⟨by omega, by omega⟩, q, ?_⟩
          refine ⟨fun q2 => ?_, fun q2 => ?_⟩ <;> try simp only [decide_eq_true_eq, decide_eq_false_iff_not, Decidable.not_not, ne_eq] at q2
          · refine ⟨⟨by omega, by omega⟩, q, ⟨by omega, fun q hq => by (obtain rfl : q = 0 := by omega); rfl, by omega, by omega⟩, ?_⟩
            refine ⟨i + 1, [(0, 0), (5, 0)], by omega, by omega, ?_⟩
            rw [hs, show addStep key (o, false) x = (o ++ [key] ++ [x], true) by simp [addStep, q1, q2]]
            simp (config := {contextual := true}) [le_capJ, idTo, noW, fstNodup, cV, cE, cL, cLs, cVs, cView, cEnt, cRow, look, Row.z, Row.n, Row.at, Ent.w, Ent.m, Ent.row, lessP, hw]
            intro j hj
            by_cases h8 : j < o.length
            · have h9 : j < o.length + 1 := by omega
              simp [joined, h8, h9, cLs, cL, List.getElem?_append]
            · have h10 : j = o.length ∨ j = o.length + 1 := by omega
              rcases h10 with rfl | rfl
              · simp [joined, cLs, cL]
              · have h11 : ¬ o.length + 1 < o.length := by omega
                have h12 : ¬ o.length + 1 < o.length + 1 := by omega
                simp [joined, cLs, cL]
          · refine ⟨i + 1, [(0, 0), (3, 0)], by omega, by omega, ?_⟩
            rw [hs, show addStep key (o, false) x = (o ++ [key], true) by simp [addStep, q2]]
            simp (config := {contextual := true}) [le_capJ, idTo, noW, fstNodup, cV, cE, cL, cLs, cVs, cView, cEnt, cRow, look, Row.z, Row.n, Row.at, Ent.w, Ent.m, Ent.row, lessP, hw]
            intro j hj
            by_cases h8 : j < o.length
            · simp [joined, h8, cLs, cL, List.getElem?_append]
            · obtain rfl : j = o.length := by omega
              simp [joined, cLs, cL]
        · refine ⟨⟨by omega, by omega⟩, q, ?_⟩
          refine ⟨fun q2 => ?_, fun q2 => ?_⟩ <;> try simp only [decide_eq_true_eq, decide_eq_false_iff_not, Decidable.not_not, ne_eq] at q2
          · refine ⟨⟨by omega, by omega⟩, q, ⟨by omega, fun q hq => by (obtain rfl : q = 0 := by omega); rfl, by omega, by omega⟩, ?_⟩
            refine ⟨i + 1, [(0, 0), (3, 0)], by omega, by omega, ?_⟩
            rw [hs, show addStep key (o, false) x = (o ++ [x], false) by simp [addStep, q1, q2]]
            simp (config := {contextual := true}) [le_capJ, idTo, noW, fstNodup, cV, cE, cL, cLs, cVs, cView, cEnt, cRow, look, Row.z, Row.n, Row.at, Ent.w, Ent.m, Ent.row, lessP, hw]
            intro j hj
            by_cases h8 : j < o.length
            · simp [joined, h8, cLs, cL, List.getElem?_append]
            · obtain rfl : j = o.length := by omega
              simp [joined, cLs, cL]
          · exact absurd (Int.le_of_eq q2.symm) q1
      · omega
    · refine run_ok tok 400 _ _ ?_; simp only [↓reduceIte, run_blk, run_back, run_opsNil, run_op, run_opT, run_skip, run_seq, run_block, run_cond, run_exit, run_ret, run_region, dop, ev, ofV, ofLeaf, put, told, yield, exitT, dBin, dUn, dIndexAddr, dLen, dBuiltin, dLoad, dBuildSlice, dElems, newRow1, cellsOf, DV.leaf, Row.z, Row.n, Row.at, Ent.w, Ent.m, Ent.row, look, pureP, pureO, newP, Bool.not_true, ↓sel_false, tab, TK.agg, List.getD_cons_zero, List.getD_cons_succ, List.set_cons_zero, List.set_cons_succ, Option.map_some, Option.bind_some, Option.join_some, List.getElem?_toArray, List.getElem?_cons_zero, List.getElem?_cons_succ, Bool.false_eq_true, true_and, and_true, List.length_cons, List.length_nil, Nat.reduceAdd, List.cons_append, List.nil_append, List.drop_zero, List.take_succ_cons, List.take_nil, List.headD_cons, List.map_cons, List.map_nil, List.all_cons, List.all_nil, Bool.and_self, Nat.reduceLeDiff, Nat.lt_add_one, or_true, Nat.zero_add, List.replicate_succ, List.replicate_zero, Int.toNat_natCast, dAppend, part, srcP, ownB, killX, Nat.reduceMul]
      refine ⟨fun q0 => ?_, fun q0 => ?_⟩ <;> try simp only [decide_eq_true_eq, decide_eq_false_iff_not] at q0
      · refine ⟨⟨by omega, by omega⟩, q, ?_⟩
        simp only [hX]
        refine ⟨fun q2 => ?_, fun q2 => ?_⟩ <;> try simp only [decide_eq_true_eq, decide_eq_false_iff_not, Decidable.not_not, ne_eq] at q2
        · refine ⟨⟨by omega, by omega⟩, q, ⟨by omega, fun q hq => by (obtain rfl : q = 0 := by omega); rfl, by omega, by omega⟩, ?_⟩
          refine ⟨i + 1, [(0, 0), (3, 0)], by omega, by omega, ?_⟩
          rw [hs, show addStep key (o, true) x = (o ++ [x], true) by simp [addStep, q2]]
          simp (config := {contextual := true}) [le_capJ, idTo, noW, fstNodup, cV, cE, cL, cLs, cVs, cView, cEnt, cRow, look, Row.z, Row.n, Row.at, Ent.w, Ent.m, Ent.row, lessP, hw]
          intro j hj
          by_cases h8 : j < o.length
          · simp [joined, h8, cLs, cL, List.getElem?_append]
          · obtain rfl : j = o.length := by omega
            simp [joined, cLs, cL]
        · refine ⟨i + 1, [(0, 0), (1, 0)], by omega, by omega, ?_⟩
          rw [hs, show addStep key (o, true) x = (o, true) by simp [addStep, q2]]
          simp (config := {contextual := true}) [idTo, noW, fstNodup, cV, cE, cL, cLs, cVs, cView, cEnt, cRow, look, Row.z, Row.n, Row.at, Ent.w, Ent.m, Ent.row, lessP, hw]
      · omega
  · obtain rfl : i = l.length := by omega
    have hadd : addL key l = if (addAll key l).2 then (addAll key l).1 else (addAll key l).1 ++ [key] := rfl
    rw [List.take_length] at hlen ⊢
    generalize addAll key l = s at hlen hadd ⊢
    obtain ⟨o, dn⟩ := s
    simp only at hlen hadd ⊢
    rw [hadd]
    cases dn
    · refine run_ok tok 400 _ _ ?_; simp only [↓reduceIte, run_blk, run_back, run_opsNil, run_op, run_opT, run_skip, run_seq, run_block, run_cond, run_exit, run_ret, run_region, dop, ev, ofV, ofLeaf, put, told, yield, exitT, dBin, dUn, dIndexAddr, dLen, dBuiltin, dLoad, dBuildSlice, dElems, newRow1, cellsOf, DV.leaf, Row.z, Row.n, Row.at, Ent.w, Ent.m, Ent.row, look, pureP, pureO, newP, Bool.not_false, ↓sel_true, tab, TK.agg, List.getD_cons_zero, List.getD_cons_succ, List.set_cons_zero, List.set_cons_succ, Option.map_some, Option.bind_some, Option.join_some, List.getElem?_toArray, List.getElem?_cons_zero, List.getElem?_cons_succ, Bool.false_eq_true, true_and, and_true, List.length_cons, List.length_nil, Nat.reduceAdd, List.cons_append, List.nil_append, List.drop_zero, List.take_succ_cons, List.take_nil, List.headD_cons, List.map_cons, List.map_nil, List.all_cons, List.all_nil, Bool.and_self, Nat.lt_irrefl, Nat.reduceLeDiff, Nat.lt_add_one, or_true, Nat.zero_add, List.replicate_succ, List.replicate_zero, Int.toNat_natCast, dAppend, part, srcP, ownB, killX, Nat.reduceMul]
      refine ⟨fun q0 => ?_, fun q0 => ?_⟩ <;> try simp only [decide_eq_true_eq, decide_eq_false_iff_not] at q0
      · omega
      refine ⟨⟨by omega, fun q hq => by (obtain rfl : q = 0 := by omega); rfl, by omega, by omega⟩, ?_⟩
      refine Out.of [(0, 0), (3, 0)] ?_; simp (config := {contextual := true}) [le_capJ, outP, outOf, resL, idTo, noW, fstNodup, cV, cE, cL, cLs, cView, cEnt, cRow, look, Row.z, Row.n, Row.at, Ent.w, Ent.m, Ent.row]
      intro j hj
      by_cases h8 : j < o.length
      · simp [joined, h8, cLs, cL, List.getElem?_append]
      · obtain rfl : j = o.length := by omega
        simp [joined, cLs, cL]
    · refine run_ok tok 400 _ _ ?_; simp only [↓reduceIte, run_blk, run_back, run_opsNil, run_op, run_opT, run_skip, run_seq, run_block, run_cond, run_exit, run_ret, run_region, dop, ev, ofV, ofLeaf, put, told, yield, exitT, dBin, dUn, dIndexAddr, dLen, dBuiltin, dLoad, dBuildSlice, dElems, newRow1, cellsOf, DV.leaf, Row.z, Row.n, Row.at, Ent.w, Ent.m, Ent.row, look, pureP, pureO, newP, Bool.not_true, ↓sel_false, tab, TK.agg, List.getD_cons_zero, List.getD_cons_succ, List.set_cons_zero, List.set_cons_succ, Option.map_some, Option.bind_some, Option.join_some, List.getElem?_toArray, List.getElem?_cons_zero, List.getElem?_cons_succ, Bool.false_eq_true, true_and, and_true, List.length_cons, List.length_nil, Nat.reduceAdd, List.cons_append, List.nil_append, List.drop_zero, List.take_succ_cons, List.take_nil, List.headD_cons, List.map_cons, List.map_nil, List.all_cons, List.all_nil, Bool.and_self, Nat.lt_irrefl, Nat.reduceLeDiff, Nat.lt_add_one, or_true, Nat.zero_add, List.replicate_succ, List.replicate_zero, Int.toNat_natCast, dAppend, part, srcP, ownB, killX, Nat.reduceMul]
      refine ⟨fun q0 => ?_, fun q0 => ?_⟩ <;> try simp only [decide_eq_true_eq, decide_eq_false_iff_not] at q0
      · omega
      refine Out.of [(0, 0), (1, 0)] ?_; simp (config := {contextual := true}) [outP, outOf, resL, idTo, noW, fstNodup, cV, cE, cL, cLs, cView, cEnt, cRow, look, Row.z, Row.n, Row.at, Ent.w, Ent.m, Ent.row]
end Go.Proofs.YtaklcaejeaiagaaE
