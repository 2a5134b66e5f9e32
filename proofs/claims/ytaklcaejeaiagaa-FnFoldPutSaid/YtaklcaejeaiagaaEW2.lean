/- A part of the proof of a law of the given program: contracts of functions. No condition of its own. -/
import Derived.Test.YtaklcaejeaiagaaECU16
import Derived.Test.YtaklcaejeaiagaaEG4
namespace Go.Proofs.YtaklcaejeaiagaaE
open Go.Proofs
set_option maxRecDepth 100000
theorem D.lessS {P : Program} {n0 : Nat} {t : List Item} {s : St} {Qd : St → Prop} (S : St) (l : RL) (h0 : lessP n0 l s S) (h : D P n0 t S Qd) : D P n0 t s Qd :=
  fun μ0 H0 w0 e a w ha => h μ0 H0 w0 e a w (ha.less (by rw [e]; exact h0))
theorem joined_zero (f g : Nat → List DV) : joined 0 f g = g := by funext k; simp [joined]
abbrev intF (n : Nat) (f : Nat → Int) : Option Ent := some (.one false (.arr 1 n (row1 f)))
abbrev intT (n : Nat) (f : Nat → Int) : Option Ent := some (.one true (.arr 1 n (row1 f)))
theorem t67 (n p : Nat) (hn : n ≤ 1048576) (f : Nat → Int) : Tri Try.prog 67 [.sl 0 0 0 n p] [intF n f] (.sl 1 0 0 n n) [intF n f, intT n f] := by
  refine Tri.of tok Try.func67 rfl ?_; refine D.ghost 1 (fun _ => []) ?_; simp only [Try.ntmps67, Try.results67, List.length_cons, List.length_nil, Nat.reduceAdd, Nat.reduceSub, List.replicate_succ, List.replicate_zero, List.cons_append, List.nil_append]; refine run_ok tok 8 _ _ ?_; simp only [run_zero, run_opsNil, run_op, run_seq, run_region, dop, ev, ofV, ofLeaf, put, List.getD_cons_zero, List.set_cons_zero, List.set_cons_succ, true_and]
  refine D.opQ (by rfl) ?_
  refine OpTQ.eqlNil tok (by rfl) (by rfl) (by rfl) (fun h0 => ?_) ?_
  · subst h0
    simp only [put, List.set_cons_zero, List.set_cons_succ]
    refine run_ok tok 400 _ _ ?_; simp only [run_opsNil, run_op, run_seq, run_cond, run_ret, run_region, dop, ev, ofV, ofLeaf, put, told, ↓sel_true, List.getD_cons_zero, List.getD_cons_succ, List.set_cons_zero, List.set_cons_succ, true_and]
    refine Out.of [(0, 0), (1, 0)] ?_; simp (config := {contextual := true}) [outP, outOf, resL, idTo, noW, fstNodup, cV, cE, cL, cLs, cView, cEnt, cRow, look, Row.z, Row.n, Row.at, Ent.w, Ent.m, Ent.row]
  · simp only [put, List.set_cons_zero, List.set_cons_succ]
    refine run_ok tok 400 _ _ ?_; simp only [↓reduceIte, capJ_zero, run_opsNil, run_op, run_skip, run_seq, run_cond, run_ret, run_region, dop, ev, ofV, ofLeaf, put, told, dBuildSlice, dElems, newRow1, DV.leaf, Row.z, Row.n, Row.at, Ent.w, Ent.m, Ent.row, look, newP, ↓sel_false, tab, List.getD_cons_zero, List.getD_cons_succ, List.set_cons_zero, List.set_cons_succ, Option.map_some, Option.join_some, List.getElem?_cons_zero, List.getElem?_cons_succ, true_and, and_true, List.length_cons, List.length_nil, Nat.reduceAdd, List.cons_append, List.nil_append, List.map_cons, List.map_nil, List.all_cons, List.all_nil, Bool.and_self, Nat.lt_add_one, Nat.add_zero, Nat.zero_add, List.replicate_zero, dAppend, part, srcP, ownB, killX, Nat.zero_mul, Nat.zero_le]
    refine ⟨⟨by omega, fun q hq => by simp, by omega, by omega⟩, ?_⟩
    refine Out.of [(0, 0), (3, 0)] ?_; simp (config := {contextual := true}) [outP, outOf, resL, idTo, noW, fstNodup, cV, cE, cL, cLs, cView, cEnt, cRow, look, Row.z, Row.n, Row.at, Ent.w, Ent.m, Ent.row, joined_zero]
/-! ### what is left of a list without what stands twice in a row -/
def cmpT (l : List Int) : Nat → List Int
  | 0 => []
  | i + 1 => if i = 0 ∨ l.getD i 0 ≠ l.getD (i - 1) 0 then cmpT l i ++ [l.getD i 0] else cmpT l i
def cmpL (l : List Int) : List Int := cmpT l l.length
theorem cmpT_len (l : List Int) : ∀ i, (cmpT l i).length ≤ i
  | 0 => by simp [cmpT]
  | i + 1 => by have := cmpT_len l i; simp only [cmpT]; split <;> simp <;> omega
theorem cmpT_take {l : List Int} : ∀ {k : Nat}, k ≤ l.length → (∀ j, 0 < j → j < k → l.getD j 0 ≠ l.getD (j - 1) 0) → cmpT l k = l.take k
  | 0, _, _ => by simp [cmpT]
  | k + 1, hk, h => by
    have ih := cmpT_take (l := l) (k := k) (by omega) fun j h1 h2 => h j h1 (by omega)
    simp only [cmpT]
    rw [if_pos, ih, List.take_succ_eq_append_getElem (by omega)]
    · congr 2
      simp [List.getD_eq_getElem?_getD, (by omega : k < l.length)]
    · by_cases h0 : k = 0
      · exact .inl h0
      · exact .inr (h k (by omega) (by omega))
set_option maxHeartbeats 8000000 in
theorem t69 (l : List Int) (hl : l.length ≤ 1048576) (p : Nat) : Tri Try.prog 69 [.sl 0 0 0 l.length p] [some (.one true (.arr 1 l.length (rowI l)))] (.sl 0 0 0 (cmpL l).length 0) [some (.one true (.arr 1 (cmpL l).length (rowI (cmpL l))))] := by
  obtain ⟨n, hn⟩ : ∃ n, n = l.length := ⟨_, rfl⟩
  have hfull : (∀ j, 0 < j → j < n → l.getD j 0 ≠ l.getD (j - 1) 0) → cmpL l = l := fun h => by
    have := cmpT_take (l := l) (k := n) (by omega) h
    rw [hn] at this
    simpa [cmpL] using this
  rw [← hn] at hl ⊢
  refine Tri.of tok Try.func69 rfl ?_; simp only [Try.ntmps69, Try.results69, List.length_cons, List.length_nil, Nat.reduceAdd, Nat.reduceSub, List.replicate_succ, List.replicate_zero, List.cons_append, List.nil_append]; refine run_ok tok 400 _ _ ?_; simp only [↓reduceIte, run_opsNil, run_op, run_skip, run_seq, run_block, run_cond, run_ret, run_region, run_loop, dop, ev, ofV, ofLeaf, put, told, dBin, dLen, dBuiltin, pureP, pureO, tab, List.getD_cons_zero, List.getD_cons_succ, List.set_cons_zero, List.set_cons_succ, Option.map_some, true_and, List.map_cons, List.map_nil]
  refine ⟨fun q0 => ?_, fun q0 => ?_⟩ <;> try simp only [decide_eq_true_eq, decide_eq_false_iff_not] at q0
  · have hc := hfull fun j h1 h2 => by omega
    rw [hc, ← hn]
    refine Out.of [(0, 0)] ?_; simp (config := {contextual := true}) [outP, outOf, resL, idTo, noW, fstNodup, cV, cE, cL, cLs, cView, cEnt, cRow, look, Row.z, Row.n, Row.at, Ent.w, Ent.m, Ent.row]
  refine D.loopI (fun k : Nat => ⟨rg 61 [(0, .sl 0 0 0 n p), (3, .i64 k)], [some (.one true (.arr 1 n (rowI l)))]⟩) (fun k => 1 ≤ k ∧ k ≤ n ∧ ∀ j, 0 < j → j < k → l.getD j 0 ≠ l.getD (j - 1) 0) (fun k => n - k) 1 [(0, 0)] ⟨Nat.le_refl _, by omega, fun j h1 h2 => by omega⟩ ?_ ?_
  · simp (config := {contextual := true}) [idTo, noW, fstNodup, cV, cE, cL, cLs, cVs, cView, cEnt, cRow, look, Row.z, Row.n, Row.at, Ent.w, Ent.m, Ent.row, lessP, rg, List.replicate_succ]
  intro k ⟨hk1, hk, hg⟩
  simp only [rg, List.replicate_succ, List.replicate_zero, List.set_cons_zero, List.set_cons_succ]
  refine run_ok tok 400 _ _ ?_; simp only [↓reduceIte, run_opsNil, run_op, run_skip, run_seq, run_block, run_cond, run_exit, run_ret, run_region, run_drawn, dop, ev, put, told, exitT, dBin, dLen, dBuiltin, pureP, pureO, tab, List.getD_cons_zero, List.getD_cons_succ, List.set_cons_zero, List.set_cons_succ, Option.map_some, true_and, List.map_cons, List.map_nil]
  refine ⟨fun q => ?_, fun q => ?_⟩ <;> try simp only [decide_eq_true_eq, decide_eq_false_iff_not] at q
  · have hw : IntKind.i64.wrap ((k : Int) + 1) = ((k + 1 : Nat) : Int) := by rw [IntKind.wrap_i64]; omega
    have hw1 : IntKind.i64.wrap ((k : Int) - 1) = ((k - 1 : Nat) : Int) := by rw [IntKind.wrap_i64]; omega
    refine D.draw1 (by rfl) [[], [], [0, 1], [0, 1, 2], [], [], [5], [4, 5, 6], [4, 5, 6, 7], [0, 1, 2, 3, 4, 5, 6, 7, 8]] (by simp only [List.length_cons, List.length_nil, Nat.reduceAdd, Nat.reduceLeDiff]) ?_; refine runD_ok (A := [[], [], [0, 1], [0, 1, 2], [], [], [5], [4, 5, 6], [4, 5, 6, 7], [0, 1, 2, 3, 4, 5, 6, 7, 8]]) (ws := []) (n0 := 1) tok 0 _ _ _ _ rfl ?_; simp only [runD_nil, runD_op, obl, newX, wokB, seenOpts, seenV, seenE, seenL, xOf, wX, Wof, upto, maskH, merge, mergeH, Ent.flag, allW, List.contains_nil, List.contains_cons, List.lookup_nil, Bool.or_false, Bool.or_true, Bool.and_true, Nat.reduceBEq, Nat.sub_self, Nat.le_refl, beq_self_eq_true, and_self, and_true, true_and, ↓reduceIte, dop, ev, ofV, ofLeaf, put, dBin, dIndexAddr, dLoad, Row.z, Row.n, Row.at, Ent.w, Ent.m, Ent.row, look, pureP, tab, TK.agg, List.getD_cons_zero, List.getD_cons_succ, List.set_cons_zero, List.set_cons_succ, Option.map_some, Option.join_some, List.getElem?_cons_zero, Bool.false_eq_true, true_and, and_true, List.length_cons, List.length_nil, Nat.reduceAdd, List.cons_append, List.nil_append, List.append_nil, List.drop_zero, List.drop_succ_cons, List.drop_nil, List.take_succ_cons, List.take_nil, List.headD_cons, List.map_nil, List.all_nil, Bool.and_true, Bool.and_self, Nat.lt_add_one, or_true, Nat.zero_add, decide_true, Int.toNat_natCast]
    refine ⟨⟨by omega, by omega⟩, by omega, ?_⟩
    simp only [hw1, Int.toNat_natCast]
    refine ⟨⟨by omega, by omega⟩, by omega, ?_⟩
    refine ⟨by rfl, ?_⟩
    refine run_ok tok 400 _ _ ?_; simp only [↓reduceIte, run_blk, run_back, run_opsNil, run_op, run_skip, run_seq, run_block, run_cond, run_region, run_loop, dop, ev, ofV, ofLeaf, put, told, dBin, dSlice, dSliceL, optMap, Row.z, Ent.m, Ent.row, look, pureP, tab, List.getD_cons_zero, List.getD_cons_succ, List.set_cons_zero, List.set_cons_succ, Option.map_some, Option.join_some, List.getElem?_cons_zero, true_and, Nat.lt_add_one, Nat.zero_add, Int.toNat_natCast]
    refine ⟨fun q2 => ?_, fun q2 => ?_⟩ <;> try simp only [decide_eq_true_eq, decide_eq_false_iff_not] at q2
    · refine ⟨⟨by omega, by omega⟩, ?_⟩
      have hk0 : cmpT l (k + 1) = cmpT l k := by simp only [cmpT]; rw [if_neg]; intro h; rcases h with h | h; (omega); exact h q2
      have hkt := cmpT_take (l := l) (k := k) (by omega) hg
      have hkl : (cmpT l k).length = k := by rw [hkt, List.length_take]; omega
      refine D.loopI (ι := Nat × (Nat → Int)) (fun s => ⟨rg 61 [(0, .sl 0 0 0 n p), (3, .i64 (cmpT l (k + s.1)).length), (4, .sl 0 0 k (n - k) (p - k)), (5, .i64 s.1)], [some (.one true (.arr 1 n (row1 s.2)))]⟩)
        (fun s => 1 ≤ s.1 ∧ k + s.1 ≤ n ∧ (∀ j, j < (cmpT l (k + s.1)).length → s.2 j = (cmpT l (k + s.1)).getD j 0) ∧ (cmpT l (k + s.1)).length ≤ k + s.1 - 1 ∧ ∀ j, k + s.1 - 1 ≤ j → j < n → s.2 j = l.getD j 0) (fun s => n - (k + s.1)) (1, fun i => l.getD i 0) [(0, 0)] ?_ ?_ ?_
      · refine ⟨Nat.le_refl _, by simp only; omega, fun j hj => ?_, by simp only [hk0, hkl]; omega, fun j h1 h2 => rfl⟩
        simp only [hk0, hkl] at hj ⊢
        rw [hkt, List.getD_eq_getElem?_getD, List.getD_eq_getElem?_getD, List.getElem?_take, if_pos hj]
      · simp (config := {contextual := true}) [idTo, noW, fstNodup, cV, cE, cL, cLs, cVs, cView, cEnt, cRow, look, Row.z, Row.n, Row.at, Ent.w, Ent.m, Ent.row, lessP, rg, List.replicate_succ, hk0, hkl]
      rintro ⟨k2, u⟩ ⟨i1, i2, i3, i4, i5⟩
      simp only at i1 i2 i3 i4 i5
      simp only [rg, List.replicate_succ, List.replicate_zero, List.set_cons_zero, List.set_cons_succ]
      refine run_ok tok 400 _ _ ?_; simp only [↓reduceIte, run_opsNil, run_op, run_skip, run_seq, run_block, run_cond, run_exit, run_region, run_drawn, dop, ev, put, told, exitT, dBin, dSlice, dSliceL, dLen, dBuiltin, optMap, Row.z, Ent.m, Ent.row, look, pureP, pureO, tab, List.getD_cons_zero, List.getD_cons_succ, List.set_cons_zero, List.set_cons_succ, Option.map_some, Option.map_none, Option.join_some, List.getElem?_cons_zero, true_and, List.map_cons, List.map_nil, Nat.lt_add_one, Nat.zero_add, Int.toNat_natCast]
      refine ⟨fun r1 => ?_, fun r1 => ?_⟩ <;> try simp only [decide_eq_true_eq, decide_eq_false_iff_not] at r1
      · have hw2 : IntKind.i64.wrap ((k2 : Int) + 1) = ((k2 + 1 : Nat) : Int) := by rw [IntKind.wrap_i64]; omega
        have hw3 : IntKind.i64.wrap ((k2 : Int) - 1) = ((k2 - 1 : Nat) : Int) := by rw [IntKind.wrap_i64]; omega
        have e1 := i5 (k + k2) (by omega) (by omega)
        have e2 := i5 (k + (k2 - 1)) (by omega) (by omega)
        have e3 : k + (k2 - 1) = k + k2 - 1 := by omega
        have hs : cmpT l (k + (k2 + 1)) = if l.getD (k + k2) 0 ≠ l.getD (k + k2 - 1) 0 then cmpT l (k + k2) ++ [l.getD (k + k2) 0] else cmpT l (k + k2) := by
          show cmpT l ((k + k2) + 1) = _
          simp only [cmpT]
          by_cases h : l.getD (k + k2) 0 ≠ l.getD (k + k2 - 1) 0
          · rw [if_pos (.inr h), if_pos h]
          · rw [if_neg (fun hh => by rcases hh with hh | hh; (omega); exact h hh), if_neg h]
        generalize hO : cmpT l (k + k2) = o at *
        have hw4 : IntKind.i64.wrap ((o.length : Int) + 1) = ((o.length + 1 : Nat) : Int) := by rw [IntKind.wrap_i64]; omega
        refine D.draw1 (by rfl) [[], [], [0, 1], [0, 1, 2], [], [], [5], [4, 5, 6], [4, 5, 6, 7], [0, 1, 2, 3, 4, 5, 6, 7, 8]] (by simp only [List.length_cons, List.length_nil, Nat.reduceAdd, Nat.reduceLeDiff]) ?_; refine runD_ok (A := [[], [], [0, 1], [0, 1, 2], [], [], [5], [4, 5, 6], [4, 5, 6, 7], [0, 1, 2, 3, 4, 5, 6, 7, 8]]) (ws := []) (n0 := 1) tok 0 _ _ _ _ rfl ?_; simp only [runD_nil, runD_op, obl, newX, wokB, seenOpts, seenV, seenE, seenL, xOf, wX, Wof, upto, maskH, merge, mergeH, Ent.flag, allW, List.contains_nil, List.contains_cons, List.lookup_nil, Bool.or_false, Bool.or_true, Bool.and_true, Nat.reduceBEq, Nat.sub_self, Nat.le_refl, beq_self_eq_true, and_self, and_true, true_and, ↓reduceIte, dop, ev, ofV, ofLeaf, put, dBin, dIndexAddr, dLoad, Row.z, Row.n, Row.at, Ent.w, Ent.m, Ent.row, look, pureP, tab, TK.agg, List.getD_cons_zero, List.getD_cons_succ, List.set_cons_zero, List.set_cons_succ, Option.map_some, Option.join_some, List.getElem?_cons_zero, Bool.false_eq_true, true_and, and_true, List.length_cons, List.length_nil, Nat.reduceAdd, List.cons_append, List.nil_append, List.append_nil, List.drop_zero, List.drop_succ_cons, List.drop_nil, List.take_succ_cons, List.take_nil, List.headD_cons, List.map_nil, List.all_nil, Bool.and_true, Bool.and_self, Nat.lt_add_one, or_true, Nat.zero_add, decide_true, Int.toNat_natCast]
        refine ⟨⟨by omega, by omega⟩, by omega, ?_⟩
        simp only [hw3, Int.toNat_natCast]
        refine ⟨⟨by omega, by omega⟩, by omega, ?_⟩
        refine ⟨by rfl, ?_⟩
        refine run_ok tok 400 _ _ ?_; simp only [↓reduceIte, run_blk, run_back, run_opsNil, run_op, run_skip, run_seq, run_cond, run_region, dop, ev, ofV, ofLeaf, put, told, dBin, dIndexAddr, dLoad, dStore, splice, cellsOf, DV.leaf, Row.z, Row.n, Row.at, Row.upd, Ent.w, Ent.m, Ent.row, Ent.upd, look, pureP, tab, TK.agg, List.getD_cons_zero, List.getD_cons_succ, List.set_cons_zero, List.set_cons_succ, Option.map_some, Option.join_some, List.getElem?_cons_zero, Bool.false_eq_true, true_and, and_true, List.length_cons, List.length_nil, List.nil_append, List.append_nil, List.drop_zero, List.drop_succ_cons, List.drop_nil, List.take_zero, List.take_succ_cons, List.take_nil, List.headD_cons, List.all_cons, List.all_nil, Bool.and_self, Nat.reduceLeDiff, Nat.lt_add_one, or_true, Nat.zero_add, Int.toNat_natCast]
        refine ⟨fun r2 => ?_, fun r2 => ?_⟩ <;> try simp only [decide_eq_true_eq, decide_eq_false_iff_not, Decidable.not_not, ne_eq] at r2
        · rw [e1, e2, e3] at r2
          rw [if_pos r2] at hs
          refine ⟨⟨by omega, by omega⟩, by omega, ⟨by omega, by omega⟩, by omega, ?_⟩
          refine ⟨(k2 + 1, fun j => if j = o.length then l.getD (k + k2) 0 else u j), [(0, 0)], ?_, by simp only; omega, ?_⟩
          · simp only [hs, List.length_append, List.length_cons, List.length_nil]
            refine ⟨by omega, by omega, fun j hj => ?_, by omega, fun j h1 h2 => ?_⟩
            · by_cases hjo : j = o.length
              · subst hjo; simp [List.getD_eq_getElem?_getD]
              · rw [if_neg hjo, i3 j (by omega)]
                simp [List.getD_eq_getElem?_getD, List.getElem?_append, (by omega : j < o.length)]
            · rw [if_neg (by omega)]; exact i5 j (by omega) h2
          · simp only [hs, List.length_append, List.length_cons, List.length_nil]
            simp (config := {contextual := true}) [idTo, noW, fstNodup, cV, cE, cL, cVs, cView, cEnt, cRow, look, Row.z, Row.n, Row.at, Ent.w, Ent.m, Ent.row, lessP, hw2, hw4]
            intro j hj
            by_cases hjo : j = o.length
            · simp [hjo, cLs, cL, e1]
            · simp [hjo, cLs, cL]
        · rw [e1, e2, e3] at r2
          rw [if_neg (fun h => h r2)] at hs
          refine ⟨(k2 + 1, u), [(0, 0)], ?_, by simp only; omega, ?_⟩
          · simp only [hs]
            exact ⟨by omega, by omega, i3, by omega, fun j h1 h2 => i5 j (by omega) h2⟩
          · simp only [hs]
            simp (config := {contextual := true}) [idTo, noW, fstNodup, cV, cE, cL, cLs, cVs, cView, cEnt, cRow, look, Row.z, Row.n, Row.at, Ent.w, Ent.m, Ent.row, lessP, hw2]
      · have hkn : k + k2 = n := by omega
        rw [hkn] at i3 i4 i5
        have hcl : cmpT l n = cmpL l := by rw [hn]; rfl
        rw [hcl] at i3 i4
        simp only [hkn, hcl]
        generalize cmpL l = o at i3 i4 ⊢
        refine ⟨⟨by omega, by omega⟩, ?_⟩
        refine D.lessS ⟨rg 61 [(0, .sl 0 0 0 n p), (3, .i64 o.length), (56, .sl 0 0 o.length (n - o.length) (p - o.length))], [some (.one true (.arr 1 o.length (rowI o)))]⟩ [(0, 0)] ?_ ?_
        · simp (config := {contextual := true}) [idTo, noW, fstNodup, cV, cE, cL, cLs, cVs, cView, cEnt, cRow, look, Row.z, Row.n, Row.at, Ent.w, Ent.m, Ent.row, lessP, rg, List.replicate_succ]
          intro j hj
          refine ⟨by omega, ?_⟩
          simp [i3 j hj, hj, List.getD_eq_getElem?_getD]
        simp only [rg, List.replicate_succ, List.replicate_zero, List.set_cons_zero, List.set_cons_succ]
        refine D.op rfl (OpT.clear tok rfl rfl rfl rfl (Nat.le_refl _) rfl rfl) ?_
        simp only [put]
        refine run_ok tok 400 _ _ ?_; simp only [run_opsNil, run_op, run_seq, run_ret, run_region, dop, ev, put, dSlice, dSliceL, optMap, pureP, tab, List.getD_cons_zero, List.getD_cons_succ, List.set_cons_zero, List.set_cons_succ, Option.map_some, true_and, Int.toNat_natCast]
        refine ⟨⟨by omega, by omega⟩, ?_⟩
        refine Out.of [(0, 0)] ?_; simp (config := {contextual := true}) [outP, outOf, resL, idTo, noW, fstNodup, cV, cE, cL, cLs, cView, cEnt, cRow, look, Row.z, Row.n, Row.at, Ent.w, Ent.m, Ent.row]
    · refine ⟨k + 1, [(0, 0)], ⟨by omega, by omega, fun j h1 h2 => ?_⟩, by omega, ?_⟩
      · by_cases hjk : j = k
        · subst hjk; exact q2
        · exact hg j h1 (by omega)
      · simp (config := {contextual := true}) [idTo, noW, fstNodup, cV, cE, cL, cLs, cVs, cView, cEnt, cRow, look, Row.z, Row.n, Row.at, Ent.w, Ent.m, Ent.row, lessP, hw]
  obtain rfl : k = n := by omega
  have hc := hfull hg
  rw [hc, ← hn]
  refine Out.of [(0, 0)] ?_; simp (config := {contextual := true}) [outP, outOf, resL, idTo, noW, fstNodup, cV, cE, cL, cLs, cView, cEnt, cRow, look, Row.z, Row.n, Row.at, Ent.w, Ent.m, Ent.row]
end Go.Proofs.YtaklcaejeaiagaaE
