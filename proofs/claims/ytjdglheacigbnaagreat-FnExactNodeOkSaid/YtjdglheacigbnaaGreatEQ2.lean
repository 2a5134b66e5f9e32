/- A part of the proof of a law of the given program: contracts of functions. No condition of its own. -/
import Derived.Test.YtjdglheacigbnaaGreatEQ1
namespace Go.Proofs.YtjdglheacigbnaaGreatE.R
open Go.Proofs
set_option maxRecDepth 100000
abbrev ancQ2_1 : List (List Nat) := [[], [0], [0, 1], [0, 1, 2], [0, 1, 2, 3], [0, 1, 2, 3, 4], [0, 1, 2, 3, 4, 5], [0, 1, 2, 3, 4, 5, 6], [0, 1, 2, 3, 4, 5, 6, 7], [0, 1, 2, 3, 4, 5, 6, 7, 8], [0, 1, 2, 3, 4, 5, 6, 7, 8, 9], [0, 1, 2, 3, 4, 5, 6, 7, 8], [0, 1, 2, 3, 4, 5, 6, 7, 8, 9, 10, 11], [0, 1, 2, 3, 4, 5, 6, 7, 8, 9, 10, 11, 12], [0, 1, 2, 3, 4, 5, 6, 7, 8, 9, 10, 11, 12, 13]]
/-- The numbers and the text of a command that may be compared. -/
def wfC (k s c a o : Int) (x : ByteArray) : Prop := (Lit.int .i64 k).wf = true ∧ (Lit.int .i64 s).wf = true ∧ (Lit.int .i64 c).wf = true ∧ (Lit.int .i64 a).wf = true ∧ (Lit.int .i64 o).wf = true ∧ x.size ≤ maxLen
theorem f42 : Tryz.prog.cellsOf 71 = 6 := by kernel_rfl
theorem f3 : Tryz.prog.cellsOf 3 = 1 := by kernel_rfl
theorem f9 : Tryz.prog.cellsOf 9 = 1 := by kernel_rfl
theorem is42 {k s c a o : Int} {x : ByteArray} (h : wfC k s c a o x) : CmpS Tryz.prog 71 [.num .i64 k, .num .i64 s, .num .i64 c, .num .i64 a, .num .i64 o, .txt x] := by
  obtain ⟨h1, h2, h3, h4, h5, h6⟩ := h
  refine ⟨by kernel_rfl, by kernel_rfl, ?_, ?_⟩
  · have k1 : ∀ x : Int, (Lit.int .i64 x).wf = true → Tryz.prog.keyLits 1 3 [.int .i64 x] = some [.int .i64 x] := fun x hx => by
      unfold Program.keyLits
      rw [Tryz.underlying3]
      simp [hx]
    have k2 : Tryz.prog.keyLits 1 9 [.string x] = some [.string x.data.toList] := by
      unfold Program.keyLits
      rw [Tryz.underlying9]
      simp [h6]
    unfold Program.keyLits
    rw [Tryz.underlying71]
    simp [f42, f3, f9, k1, k2, h1, h2, h3, h4, h5, LV.val, LV.lit]
  · simp [Value.formed, Tryz.underlying71, f42]
abbrev dvC (k s c a o : Int) (x : ByteArray) : DV := .agg [.i64 k, .i64 s, .i64 c, .i64 a, .i64 o, .str x]
abbrev noT : ByteArray := ⟨#[]⟩
/-- A command in form. -/
def formC (k s c a o : Int) (x : ByteArray) : Prop :=
  ((k = 0 ∨ k = 8) ∧ s = 0 ∧ c = 0 ∧ a = 0 ∧ o = 0 ∧ x.size = 0) ∨
  ((1 ≤ k ∧ k ≤ 7) ∧ (0 ≤ s ∧ s ≤ 3) ∧ (1 ≤ c ∧ c ≤ 9999) ∧ ((k = 1 ∧ x.size ≤ 160 ∧ a = 0 ∧ o = 0) ∨ (k ≠ 1 ∧ x.size = 0 ∧ (0 ≤ a ∧ a ≤ 40) ∧ (0 ≤ o ∧ o ≤ 31))))
theorem wf0 {k : Int} (h : (Lit.int .i64 k).wf = true) : wfC k 0 0 0 0 noT := ⟨h, by decide, by decide, by decide, by decide, by decide⟩
theorem emp (x : ByteArray) : x = noT ↔ x.size = 0 := by
  constructor
  · rintro rfl; rfl
  · intro h
    cases x with
    | mk d =>
      have : d = #[] := Array.eq_empty_of_size_eq_zero h
      rw [this]
theorem lv_eq (k s c a o : Int) (x : ByteArray) : ([LV.num .i64 k, .num .i64 s, .num .i64 c, .num .i64 a, .num .i64 o, .txt x] = [LV.num .i64 k, .num .i64 0, .num .i64 0, .num .i64 0, .num .i64 0, .txt noT]) ↔ (s = 0 ∧ c = 0 ∧ a = 0 ∧ o = 0 ∧ x.size = 0) := by simp [emp]
theorem bb_eq {bb : Bool} {p q : Prop} [Decidable q] (h : bb = true ↔ p) (e : p ↔ q) : decide q = bb := by
  rw [Bool.eq_iff_iff, decide_eq_true_eq, h, e]
set_option maxHeartbeats 4000000 in
theorem t65 (k s c a o : Int) (x : ByteArray) (hw : wfC k s c a o x) (bb : Bool) (hbb : bb = true ↔ formC k s c a o x) : Tri Tryz.prog 65 [dvC k s c a o x] [] (.bool bb) [] := by
  have hk0 := wf0 hw.1
  refine Tri.of tok Tryz.func65 rfl ?_; simp only [Tryz.ntmps65, Tryz.results65, List.length_cons, List.length_nil, Nat.reduceAdd, Nat.reduceSub, List.replicate_succ, List.replicate_zero, List.cons_append, List.nil_append]; refine run_ok tok 400 _ _ ?_; simp only [↓reduceIte, run_blk, run_opsNil, run_op, run_skip, run_seq, run_block, run_cond, run_region, dop, ev, ofV, ofLeaf, put, told, dBin, dFieldAddr, dBox, dLoad, dBuild, dFill, newRow1, splice, cellsOf, DV.leaf, Row.z, Row.n, Row.at, Ent.m, Ent.row, look, pureP, pureO, newP, ↓sel_true, tab, TK.agg, List.getD_cons_zero, List.getD_cons_succ, List.set_cons_zero, List.set_cons_succ, Option.map_some, Option.map_none, Option.bind_some, Option.join_some, List.getElem?_cons_zero, Bool.false_eq_true, true_and, and_true, List.length_cons, List.length_nil, Nat.reduceAdd, List.cons_append, List.nil_append, List.drop_zero, List.drop_succ_cons, List.take_zero, List.take_succ_cons, List.take_nil, List.headD_cons, List.map_cons, List.map_nil, List.all_cons, List.all_nil, Bool.and_self, Nat.reduceLeDiff, Nat.lt_add_one, or_true, true_or, Nat.add_zero, Nat.zero_add, reduceCtorEq, Nat.reduceEqDiff, Option.isSome_some]
  refine ⟨fun q0 => ?_, fun q0 => ?_⟩ <;> try simp only [decide_eq_true_eq, decide_eq_false_iff_not] at q0
  · refine D.op rfl (OpT.eqlS [.num .i64 k, .num .i64 s, .num .i64 c, .num .i64 a, .num .i64 o, .txt x] [.num .i64 k, .num .i64 0, .num .i64 0, .num .i64 0, .num .i64 0, .txt noT] (is42 hw) (is42 hk0) rfl rfl) ?_
    simp only [put, List.set_cons_zero, List.set_cons_succ]
    refine run_ok tok 400 _ _ ?_; simp only [run_opsNil, run_op, run_ret, dop, ev, put, List.getD_cons_zero, List.getD_cons_succ, List.set_cons_zero, List.set_cons_succ, true_and]
    have hb := bb_eq (q := [LV.num .i64 k, .num .i64 s, .num .i64 c, .num .i64 a, .num .i64 o, .txt x] = [LV.num .i64 k, .num .i64 0, .num .i64 0, .num .i64 0, .num .i64 0, .txt noT]) hbb (by rw [lv_eq]; unfold formC; omega)
    rw [hb]
    refine Out.of [] ?_; simp (config := {contextual := true}) [outP, outOf, resL, idTo, noW, fstNodup, cV, cE, cL, cView, Ent.w]
  refine ⟨fun q1 => ?_, fun q1 => ?_⟩ <;> try simp only [decide_eq_true_eq, decide_eq_false_iff_not] at q1
  · refine D.op rfl (OpT.eqlS [.num .i64 k, .num .i64 s, .num .i64 c, .num .i64 a, .num .i64 o, .txt x] [.num .i64 k, .num .i64 0, .num .i64 0, .num .i64 0, .num .i64 0, .txt noT] (is42 hw) (is42 hk0) rfl rfl) ?_
    simp only [put, List.set_cons_zero, List.set_cons_succ]
    refine run_ok tok 400 _ _ ?_; simp only [run_opsNil, run_op, run_ret, dop, ev, put, List.getD_cons_zero, List.getD_cons_succ, List.set_cons_zero, List.set_cons_succ, true_and]
    have hb := bb_eq (q := [LV.num .i64 k, .num .i64 s, .num .i64 c, .num .i64 a, .num .i64 o, .txt x] = [LV.num .i64 k, .num .i64 0, .num .i64 0, .num .i64 0, .num .i64 0, .txt noT]) hbb (by rw [lv_eq]; unfold formC; omega)
    rw [hb]
    refine Out.of [] ?_; simp (config := {contextual := true}) [outP, outOf, resL, idTo, noW, fstNodup, cV, cE, cL, cView, Ent.w]
  refine D.call Tryz.func26 [] (t26 k 1 7) ?_; simp only [callP, callOk, wOk, jsOf, noW, fstNodup, allW, sig, renV, renE, renL, afterH, backH, capV, cV, cE, cL, cVs, cView, ev, ofV, ofLeaf, Ent.w, put, List.lookup_nil, Bool.or_true, Bool.and_true, List.all_nil, List.getD_cons_zero, List.getD_cons_succ, List.set_cons_zero, List.set_cons_succ, List.length_cons, List.length_nil, List.drop_nil, List.map_cons, List.map_nil, List.append_nil, Nat.zero_add, decide_true, true_and, and_self]; refine run_ok tok 400 _ _ ?_; simp only [↓reduceIte, run_opsNil, run_op, run_opF, run_seq, run_cond, run_ret, run_region, dop, ev, ofV, ofLeaf, put, told, yield, dUn, dFieldAddr, dLoad, Row.z, Row.n, Row.at, Ent.m, Ent.row, look, pureP, pureO, ↓sel_true, ↓sel_false, tab, TK.agg, List.getD_cons_zero, List.getD_cons_succ, List.set_cons_zero, List.set_cons_succ, Option.map_some, Option.bind_some, Option.join_some, List.getElem?_toArray, List.getElem?_cons_zero, List.getElem?_cons_succ, Bool.false_eq_true, true_and, and_true, List.length_cons, List.length_nil, Nat.reduceAdd, List.drop_zero, List.drop_succ_cons, List.take_zero, List.take_succ_cons, List.headD_cons, Nat.reduceLeDiff, Nat.lt_add_one, or_true, Nat.zero_add, reduceCtorEq]
  refine ⟨fun q2 => ?_, fun q2 => ?_⟩ <;> try simp only [Bool.not_eq_true', Bool.not_eq_false', decide_eq_true_eq, decide_eq_false_iff_not] at q2
  · have hb := no_of hbb (by unfold formC; omega)
    refine Out.of [] ?_; simp (config := {contextual := true}) [outP, outOf, resL, idTo, noW, fstNodup, cV, cE, cL, cView, Ent.w, hb]
  refine D.call Tryz.func26 [] (t26 s 0 3) ?_; simp only [callP, callOk, wOk, jsOf, noW, fstNodup, allW, sig, renV, renE, renL, afterH, backH, capV, cV, cE, cL, cVs, cView, ev, ofV, ofLeaf, Ent.w, put, List.lookup_nil, Bool.or_true, Bool.and_true, List.all_nil, List.getD_cons_zero, List.getD_cons_succ, List.set_cons_zero, List.set_cons_succ, List.length_cons, List.length_nil, List.drop_nil, List.map_cons, List.map_nil, List.append_nil, Nat.zero_add, decide_true, true_and, and_self]; refine run_ok tok 400 _ _ ?_; simp only [↓reduceIte, run_opsNil, run_op, run_opF, run_seq, run_cond, run_ret, run_region, dop, ev, ofV, ofLeaf, put, told, yield, dUn, dFieldAddr, dLoad, Row.z, Row.n, Row.at, Ent.m, Ent.row, look, pureP, pureO, ↓sel_true, ↓sel_false, tab, TK.agg, List.getD_cons_zero, List.getD_cons_succ, List.set_cons_zero, List.set_cons_succ, Option.map_some, Option.bind_some, Option.join_some, List.getElem?_toArray, List.getElem?_cons_zero, List.getElem?_cons_succ, Bool.false_eq_true, true_and, and_true, List.length_cons, List.length_nil, Nat.reduceAdd, List.drop_zero, List.drop_succ_cons, List.take_zero, List.take_succ_cons, List.headD_cons, Nat.reduceLeDiff, Nat.lt_add_one, or_true, Nat.zero_add, reduceCtorEq]
  refine ⟨fun q3 => ?_, fun q3 => ?_⟩ <;> try simp only [Bool.not_eq_true', Bool.not_eq_false', decide_eq_true_eq, decide_eq_false_iff_not] at q3
  · have hb := no_of hbb (by unfold formC; omega)
    refine Out.of [] ?_; simp (config := {contextual := true}) [outP, outOf, resL, idTo, noW, fstNodup, cV, cE, cL, cView, Ent.w, hb]
  refine D.call Tryz.func26 [] (t26 c 1 9999) ?_; simp only [callP, callOk, wOk, jsOf, noW, fstNodup, allW, sig, renV, renE, renL, afterH, backH, capV, cV, cE, cL, cVs, cView, ev, ofV, ofLeaf, Ent.w, put, List.lookup_nil, Bool.or_true, Bool.and_true, List.all_nil, List.getD_cons_zero, List.getD_cons_succ, List.set_cons_zero, List.set_cons_succ, List.length_cons, List.length_nil, List.drop_nil, List.map_cons, List.map_nil, List.append_nil, Nat.zero_add, decide_true, true_and, and_self]; refine run_ok tok 400 _ _ ?_; simp only [↓reduceIte, run_opsNil, run_op, run_opT, run_opF, run_skip, run_seq, run_cond, run_ret, run_region, run_drawn, dop, ev, ofV, ofLeaf, put, told, yield, dBin, dUn, dFieldAddr, dLen, dBuiltin, dLoad, Row.z, Row.n, Row.at, Ent.m, Ent.row, look, pureP, pureO, ↓sel_true, ↓sel_false, tab, TK.agg, List.getD_cons_zero, List.getD_cons_succ, List.set_cons_zero, List.set_cons_succ, Option.map_some, Option.bind_some, Option.join_some, List.getElem?_toArray, List.getElem?_cons_zero, List.getElem?_cons_succ, Bool.false_eq_true, true_and, and_true, List.length_cons, List.length_nil, Nat.reduceAdd, List.drop_zero, List.drop_succ_cons, List.take_zero, List.take_succ_cons, List.take_nil, List.headD_cons, List.map_cons, List.map_nil, Nat.reduceLeDiff, Nat.lt_add_one, or_true, Nat.add_zero, Nat.zero_add, reduceCtorEq]
  refine ⟨fun q4 => ?_, fun q4 => ?_⟩ <;> try simp only [Bool.not_eq_true', Bool.not_eq_false', decide_eq_true_eq, decide_eq_false_iff_not] at q4
  · have hb := no_of hbb (by unfold formC; omega)
    refine Out.of [] ?_; simp (config := {contextual := true}) [outP, outOf, resL, idTo, noW, fstNodup, cV, cE, cL, cView, Ent.w, hb]
  refine ⟨fun q5 => ?_, fun q5 => ?_⟩ <;> try simp only [decide_eq_true_eq, decide_eq_false_iff_not] at q5
  · refine ⟨fun q6 => ?_, fun q6 => ?_⟩ <;> try simp only [decide_eq_true_eq, decide_eq_false_iff_not] at q6
    · refine ⟨fun q7 => ?_, fun q7 => ?_⟩ <;> try simp only [decide_eq_true_eq, decide_eq_false_iff_not] at q7
      · have hb := bb_eq (q := o = 0) hbb (by unfold formC; omega)
        rw [hb]
        refine Out.of [] ?_; simp (config := {contextual := true}) [outP, outOf, resL, idTo, noW, fstNodup, cV, cE, cL, cView, Ent.w]
      · have hb := no_of hbb (by unfold formC; omega)
        refine Out.of [] ?_; simp (config := {contextual := true}) [outP, outOf, resL, idTo, noW, fstNodup, cV, cE, cL, cView, Ent.w, hb]
    · have hb := no_of hbb (by unfold formC; omega)
      refine Out.of [] ?_; simp (config := {contextual := true}) [outP, outOf, resL, idTo, noW, fstNodup, cV, cE, cL, cView, Ent.w, hb]
  · refine D.draw1 (by rfl) ancQ2_1 (by simp only [List.length_cons, List.length_nil, Nat.reduceAdd, Nat.reduceLeDiff]) ?_; refine runD_ok (A := ancQ2_1) (ws := []) (n0 := 1) tok 0 _ _ _ _ rfl ?_; simp only [runD_nil, runD_op, runD_opT, obl, newX, wokB, seenOpts, seenV, seenE, seenL, xOf, wX, Wof, upto, maskH, merge, mergeH, Ent.flag, allW, List.contains_nil, List.contains_cons, List.lookup_nil, Bool.or_false, Bool.or_true, Bool.and_true, Nat.reduceBEq, Nat.sub_self, Nat.le_refl, beq_self_eq_true, and_self, true_and, ↓reduceIte, dop, ev, ofV, ofLeaf, put, yield, dBin, dFieldAddr, dLoad, Row.z, Row.n, Row.at, Ent.w, Ent.m, Ent.row, look, pureP, pureO, ↓sel_true, ↓sel_false, tab, TK.agg, List.getD_cons_zero, List.getD_cons_succ, List.set_cons_zero, List.set_cons_succ, Option.map_some, Option.bind_some, Option.join_some, List.getElem?_toArray, List.getElem?_cons_zero, List.getElem?_cons_succ, Bool.false_eq_true, true_and, List.length_cons, List.length_nil, Nat.reduceAdd, List.cons_append, List.nil_append, List.append_nil, List.drop_zero, List.drop_succ_cons, List.drop_nil, List.take_zero, List.take_succ_cons, List.take_nil, List.headD_cons, List.map_nil, List.all_nil, Bool.and_true, Bool.and_self, Nat.reduceLeDiff, Nat.lt_add_one, or_true, Nat.zero_add, decide_true, reduceCtorEq]
    refine ⟨fun q6 => ?_, fun q6 => ?_⟩ <;> try simp only [decide_eq_true_eq, decide_eq_false_iff_not] at q6
    · have q6 := (emp x).1 q6
      refine Dr.call ancQ2_1 [] 1 Tryz.func26 [] (t26 a 0 40) ?_; simp only [↓reduceIte, callP, callOk, wOk, jsOf, noW, fstNodup, allW, sig, renV, renE, renL, afterH, backH, capV, cV, cE, cL, cVs, cView, ev, ofV, ofLeaf, Ent.w, put, List.lookup_nil, Bool.or_true, Bool.or_false, Bool.and_true, beq_self_eq_true, List.all_nil, List.getD_cons_zero, List.getD_cons_succ, List.set_cons_zero, List.set_cons_succ, List.length_cons, List.length_nil, List.drop_succ_cons, List.drop_nil, List.map_cons, List.map_nil, List.cons_append, List.nil_append, List.append_nil, Option.map_some, Nat.reduceAdd, Nat.reduceBEq, Nat.zero_add, Nat.le_refl, decide_true, true_and, and_self, Bool.false_eq_true, obl, newX, wokB, seenOpts, seenV, seenE, seenL, xOf, wX, Wof, maskH, merge, mergeH, Ent.flag, allW, List.contains_nil, List.contains_cons, List.lookup_nil, Bool.or_false, Bool.or_true, Bool.and_true, Nat.reduceBEq, Nat.le_refl, beq_self_eq_true, and_self, true_and, ↓reduceIte, ev, ofV, ofLeaf, put, Ent.w, List.getD_cons_zero, List.getD_cons_succ, List.set_cons_zero, List.set_cons_succ, Option.map_some, Bool.false_eq_true, true_and, List.length_cons, List.length_nil, Nat.reduceAdd, List.cons_append, List.nil_append, List.append_nil, List.drop_succ_cons, List.drop_nil, List.map_cons, List.map_nil, List.all_nil, Bool.and_true, Bool.and_self, Nat.zero_add, decide_true]
      refine runD_ok (A := ancQ2_1) (ws := []) (n0 := 1) tok _ _ _ _ _ rfl ?_; simp only [runD_nil, runD_op, runD_opT, obl, newX, wokB, seenOpts, seenV, seenE, seenL, xOf, wX, Wof, upto, maskH, merge, mergeH, Ent.flag, allW, List.contains_nil, List.contains_cons, List.lookup_nil, Bool.or_false, Bool.or_true, Bool.and_true, Nat.reduceBEq, Nat.sub_self, Nat.le_refl, beq_self_eq_true, and_self, true_and, ↓reduceIte, dop, ev, ofV, ofLeaf, put, yield, dFieldAddr, dLoad, Row.z, Row.n, Row.at, Ent.w, Ent.m, Ent.row, look, pureP, pureO, ↓sel_true, ↓sel_false, tab, TK.agg, List.getD_cons_zero, List.getD_cons_succ, List.set_cons_zero, List.set_cons_succ, Option.map_some, Option.bind_some, Option.join_some, List.getElem?_toArray, List.getElem?_cons_zero, List.getElem?_cons_succ, Bool.false_eq_true, true_and, List.length_cons, List.length_nil, Nat.reduceAdd, List.cons_append, List.nil_append, List.append_nil, List.drop_zero, List.drop_succ_cons, List.drop_nil, List.take_zero, List.take_succ_cons, List.headD_cons, List.map_nil, List.all_nil, Bool.and_true, Bool.and_self, Nat.reduceLeDiff, Nat.lt_add_one, or_true, Nat.zero_add, decide_true, reduceCtorEq]
      refine ⟨fun q7 => ?_, fun q7 => ?_⟩ <;> try simp only [decide_eq_true_eq, decide_eq_false_iff_not] at q7
      · refine Dr.call ancQ2_1 [] 1 Tryz.func28 [] (t28) ?_; simp only [↓reduceIte, callP, callOk, wOk, jsOf, noW, fstNodup, allW, sig, renV, renE, renL, afterH, backH, capV, cVs, cView, ev, Ent.w, put, List.lookup_nil, Bool.or_true, Bool.or_false, Bool.and_true, beq_self_eq_true, List.all_nil, List.getD_cons_zero, List.getD_cons_succ, List.set_cons_zero, List.set_cons_succ, List.length_cons, List.length_nil, List.drop_succ_cons, List.drop_nil, List.map_nil, List.cons_append, List.nil_append, List.append_nil, Option.map_some, Nat.reduceAdd, Nat.reduceBEq, Nat.zero_add, Nat.le_refl, decide_true, true_and, and_self, Bool.false_eq_true, obl, newX, wokB, seenOpts, seenV, seenE, seenL, xOf, wX, Wof, upto, maskH, merge, mergeH, Ent.flag, allW, List.contains_nil, List.contains_cons, List.lookup_nil, Bool.or_false, Bool.or_true, Bool.and_true, Nat.reduceBEq, Nat.sub_self, Nat.le_refl, beq_self_eq_true, and_self, true_and, ↓reduceIte, ev, put, Ent.w, List.getD_cons_zero, List.getD_cons_succ, List.set_cons_zero, List.set_cons_succ, Option.map_some, Bool.false_eq_true, true_and, List.length_cons, List.length_nil, Nat.reduceAdd, List.cons_append, List.nil_append, List.append_nil, List.drop_succ_cons, List.drop_nil, List.map_nil, List.all_nil, Bool.and_true, Bool.and_self, Nat.zero_add, decide_true]
        refine runD_ok (A := ancQ2_1) (ws := []) (n0 := 1) tok _ _ _ _ _ rfl ?_; simp only [runD_opT, dop, yield, ↓sel_true, List.getD_cons_zero, List.getD_cons_succ, List.set_cons_zero, List.set_cons_succ, Option.map_some, Option.bind_some, List.getElem?_toArray, List.getElem?_cons_zero, List.getElem?_cons_succ]
        refine Dr.call ancQ2_1 [] 1 Tryz.func26 [] (t26 o 0 31) ?_; simp only [↓reduceIte, callP, callOk, wOk, jsOf, noW, fstNodup, allW, sig, renV, renE, renL, afterH, backH, capV, cV, cE, cL, cVs, cView, ev, ofV, ofLeaf, Ent.w, put, List.lookup_nil, Bool.or_true, Bool.or_false, Bool.and_true, beq_self_eq_true, List.all_nil, List.getD_cons_zero, List.getD_cons_succ, List.set_cons_zero, List.set_cons_succ, List.length_cons, List.length_nil, List.drop_succ_cons, List.drop_nil, List.map_cons, List.map_nil, List.cons_append, List.nil_append, List.append_nil, Option.map_some, Nat.reduceAdd, Nat.reduceBEq, Nat.zero_add, Nat.le_refl, decide_true, true_and, and_self, Bool.false_eq_true, obl, newX, wokB, seenOpts, seenV, seenE, seenL, xOf, wX, Wof, maskH, merge, mergeH, Ent.flag, allW, List.contains_nil, List.contains_cons, List.lookup_nil, Bool.or_false, Bool.or_true, Bool.and_true, Nat.reduceBEq, Nat.le_refl, beq_self_eq_true, and_self, true_and, ↓reduceIte, ev, ofV, ofLeaf, put, Ent.w, List.getD_cons_zero, List.getD_cons_succ, List.set_cons_zero, List.set_cons_succ, Option.map_some, Bool.false_eq_true, true_and, List.length_cons, List.length_nil, Nat.reduceAdd, List.cons_append, List.nil_append, List.append_nil, List.drop_succ_cons, List.drop_nil, List.map_cons, List.map_nil, List.all_nil, Bool.and_true, Bool.and_self, Nat.zero_add, decide_true]
        refine runD_ok (A := ancQ2_1) (ws := []) (n0 := 1) tok _ _ _ _ _ rfl ?_; simp only [runD_nil, runD_op, obl, newX, wokB, seenOpts, seenV, seenE, seenL, xOf, wX, Wof, maskH, merge, mergeH, Ent.flag, allW, List.contains_nil, List.contains_cons, List.lookup_nil, Bool.or_false, Bool.or_true, Bool.and_true, Nat.reduceBEq, Nat.le_refl, beq_self_eq_true, and_self, true_and, ↓reduceIte, dop, ev, put, Ent.w, List.getD_cons_zero, List.getD_cons_succ, List.set_cons_zero, List.set_cons_succ, Option.map_some, Bool.false_eq_true, true_and, List.length_cons, List.length_nil, Nat.reduceAdd, List.cons_append, List.nil_append, List.append_nil, List.drop_succ_cons, List.drop_nil, List.map_nil, List.all_nil, Bool.and_true, Bool.and_self, Nat.zero_add, decide_true]
        refine ⟨by rfl, ?_⟩
        refine run_ok tok 400 _ _ ?_; simp only [run_ret]
        have hb := bb_eq (q := (0 ≤ o ∧ o ≤ 31)) hbb (by unfold formC; omega)
        rw [hb]
        refine Out.of [] ?_; simp (config := {contextual := true}) [outP, outOf, resL, idTo, noW, fstNodup, cV, cE, cL, cView, Ent.w]
      · refine ⟨by rfl, ?_⟩
        refine run_ok tok 400 _ _ ?_; simp only [run_ret]
        have hb := no_of hbb (by unfold formC; omega)
        refine Out.of [] ?_; simp (config := {contextual := true}) [outP, outOf, resL, idTo, noW, fstNodup, cV, cE, cL, cView, Ent.w, hb]
    · have q6 : ¬ x.size = 0 := fun h => q6 ((emp x).2 h)
      refine ⟨by rfl, ?_⟩
      refine run_ok tok 400 _ _ ?_; simp only [run_ret]
      have hb := no_of hbb (by unfold formC; omega)
      refine Out.of [] ?_; simp (config := {contextual := true}) [outP, outOf, resL, idTo, noW, fstNodup, cV, cE, cL, cView, Ent.w, hb]
end Go.Proofs.YtjdglheacigbnaaGreatE.R
