/- A part of the proof of a law of the given program: contracts of functions. No condition of its own. -/
import Derived.Test.YtaklcaejeaiagaaEBT22
namespace Go.Proofs.YtaklcaejeaiagaaE
open Go.Proofs
set_option maxRecDepth 100000
abbrev rowB (x : Nat → Int) : Nat → List DV := fun i => [.int .u8 (x i)]
def mixy (L : Nat) (x : Nat → Int) (k : Nat) : Int := x (k % L) * 131 + x ((k * 7 + 3) % L) * 1117 + k * 29 + (k / L : Nat) * 53
def pk (L : Nat) (x : Nat → Int) (k : Nat) (n : Int) : Int :=
  if n < 1 ∨ L = 0 then 0 else if k < L then (x k).tmod n else (bits .xor .i64 (mixy L x k) ((mixy L x k).tdiv 64)).tmod n
theorem xor_nn (x y : Nat) (hx : x < 2 ^ 62) (hy : y < 2 ^ 62) : 0 ≤ bits .xor .i64 x y := by
  have h1 : ((BitVec.ofInt 64 (x : Int)) ^^^ (BitVec.ofInt 64 (y : Int))).toNat = x ^^^ y := by
    rw [BitVec.toNat_xor]
    simp only [BitVec.ofInt_natCast, BitVec.toNat_ofNat]
    rw [Nat.mod_eq_of_lt (by omega), Nat.mod_eq_of_lt (by omega)]
  have h2 := Nat.xor_lt_two_pow hx hy
  show 0 ≤ IntKind.i64.wrap (((BitVec.ofInt 64 (x : Int)) ^^^ (BitVec.ofInt 64 (y : Int))).toNat : Int)
  rw [h1, IntKind.wrap_i64]
  omega
theorem pk_nn (L : Nat) (x : Nat → Int) (hL : L ≤ 2000) (hx : ∀ i, i < L → 0 ≤ x i ∧ x i ≤ 255) (k : Nat) (hk : k ≤ 1000000) (n : Int) : 0 ≤ pk L x k n ∧ (1 ≤ n → pk L x k n < n) := by
  unfold pk
  split
  · omega
  · rename_i h
    have key : ∀ y : Int, 0 ≤ y → 0 ≤ y.tmod n ∧ (1 ≤ n → y.tmod n < n) := fun y hy => ⟨Int.tmod_nonneg n hy, fun h1 => Int.tmod_lt_of_pos y (by omega)⟩
    split
    · rename_i h2
      exact key _ (hx k h2).1
    · refine key _ ?_
      have hL0 : 0 < L := by omega
      have hA := hx (k % L) (Nat.mod_lt _ hL0)
      have hB := hx ((k * 7 + 3) % L) (Nat.mod_lt _ hL0)
      have hq2 : k / L ≤ k := Nat.div_le_self k L
      generalize hm : mixy L x k = y
      have hy : 0 ≤ y ∧ y ≤ 1000000000 := by
        rw [← hm]; unfold mixy
        generalize x (k % L) = A at *
        generalize x ((k * 7 + 3) % L) = B at *
        generalize k / L = q at *
        omega
      obtain ⟨z, rfl⟩ : ∃ z : Nat, y = z := ⟨y.toNat, by omega⟩
      have hd : ((z : Int)).tdiv 64 = ((z / 64 : Nat) : Int) := (Int.ofNat_tdiv z 64).symm
      rw [hd]
      exact xor_nn z (z / 64) (by omega) (by omega)
set_option maxHeartbeats 1000000 in
theorem t75 (L cap : Nat) (x : Nat → Int) (hL : L ≤ 2000) (hx : ∀ i, i < L → 0 ≤ x i ∧ x i ≤ 255) (k : Nat) (hk : k ≤ 1000000) (n : Int) (hn : n ≤ 1000000) :
   Tri Try.prog 75 [.ptr 1 0 0 0, .i64 n] [some (.one false (.arr 1 L (rowB x))), some (.one true (.lst 2 [[.sl 0 0 0 L cap, .i64 k]]))]
   (.i64 (pk L x k n)) [some (.one false (.arr 1 L (rowB x))), some (.one true (.lst 2 [[.sl 0 0 0 L cap, .i64 (k + 1 : Nat)]]))] := by
  have hw : IntKind.i64.wrap ((k : Int) + 1) = ((k + 1 : Nat) : Int) := by rw [IntKind.wrap_i64]; omega
  have hw2 : IntKind.i64.wrap (((k + 1 : Nat) : Int) - 1) = (k : Int) := by rw [IntKind.wrap_i64]; omega
  refine Tri.of tok Try.func75 rfl ?_; simp only [Try.ntmps75, Try.results75, List.length_cons, List.length_nil, Nat.reduceAdd, Nat.reduceSub, List.replicate_succ, List.replicate_zero, List.cons_append, List.nil_append]; refine run_ok tok 400 _ _ ?_; simp only [↓reduceIte, run_opsNil, run_op, run_opF, run_skip, run_seq, run_cond, run_ret, run_region, run_drawn, dop, ev, ofV, ofLeaf, put, told, yield, dBin, dConv, dFieldAddr, dIndexAddr, dLen, dBuiltin, dLoad, dStore, splice, cellsOf, DV.leaf, Row.z, Row.n, Row.at, Row.upd, Ent.w, Ent.m, Ent.row, Ent.upd, look, pureP, pureO, ↓sel_true, ↓sel_false, tab, TK.agg, List.getD_cons_zero, List.getD_cons_succ, List.set_cons_zero, List.set_cons_succ, Option.map_some, Option.bind_some, Option.join_some, List.getElem?_toArray, List.getElem?_cons_zero, List.getElem?_cons_succ, Bool.false_eq_true, true_and, and_true, List.length_cons, List.length_nil, Nat.reduceAdd, List.cons_append, List.nil_append, List.append_nil, List.drop_zero, List.drop_succ_cons, List.drop_nil, List.take_zero, List.take_succ_cons, List.take_nil, List.headD_cons, List.map_cons, List.map_nil, List.all_cons, List.all_nil, Bool.and_self, Nat.reduceLeDiff, Nat.lt_add_one, or_true, Nat.add_zero, Nat.zero_add, reduceCtorEq]
  refine ⟨fun h1 => ?_, fun h1 => ?_⟩ <;> try simp only [decide_eq_true_eq, decide_eq_false_iff_not] at h1
  · refine Out.of [(0, 0), (1, 0)] ?_; simp (config := {contextual := true}) [outP, outOf, resL, idTo, noW, fstNodup, cV, cE, cL, cLs, cView, cEnt, cRow, cEls, look, Row.z, Row.n, Row.at, Ent.w, Ent.m, Ent.row, pk, h1, hw]
  refine ⟨fun h2 => ?_, fun h2 => ?_⟩ <;> try simp only [decide_eq_true_eq, decide_eq_false_iff_not] at h2
  · have h3 : L = 0 := by omega
    refine Out.of [(0, 0), (1, 0)] ?_; simp (config := {contextual := true}) [outP, outOf, resL, idTo, noW, fstNodup, cV, cE, cL, cLs, cView, cEnt, cRow, cEls, look, Row.z, Row.n, Row.at, Ent.w, Ent.m, Ent.row, pk, h3, hw]
  simp only [hw, hw2]
  refine ⟨fun h4 => ?_, fun h4 => ?_⟩ <;> try simp only [decide_eq_true_eq, decide_eq_false_iff_not] at h4
  · have hx1 := hx k (by omega)
    have hw3 : IntKind.i64.wrap (x k) = x k := by rw [IntKind.wrap_i64]; omega
    have h5 : k < L := by omega
    refine ⟨⟨by omega, by omega⟩, by omega, by omega, Out.of [(0, 0), (1, 0)] ?_⟩
    simp (config := {contextual := true}) [outP, outOf, resL, idTo, noW, fstNodup, cV, cE, cL, cLs, cView, cEnt, cRow, cEls, look, Row.z, Row.n, Row.at, Ent.w, Ent.m, Ent.row, pk, h1, h5, hw3]
    intro h; omega
  · have hm1 : (k : Int).tmod (L : Int) = ((k % L : Nat) : Int) := (Int.ofNat_tmod k L).symm
    have hq1 : (k : Int).tdiv (L : Int) = ((k / L : Nat) : Int) := (Int.ofNat_tdiv k L).symm
    have hL0 : 0 < L := by omega
    have hw5 : IntKind.i64.wrap ((k : Int) * 7) = ((k * 7 : Nat) : Int) := by rw [IntKind.wrap_i64]; omega
    have hw6 : IntKind.i64.wrap (((k * 7 : Nat) : Int) + 3) = ((k * 7 + 3 : Nat) : Int) := by rw [IntKind.wrap_i64]; omega
    have hm2 : ((k * 7 + 3 : Nat) : Int).tmod (L : Int) = (((k * 7 + 3) % L : Nat) : Int) := (Int.ofNat_tmod _ L).symm
    have hA := hx (k % L) (Nat.mod_lt _ hL0)
    have hB := hx ((k * 7 + 3) % L) (Nat.mod_lt _ hL0)
    have hl1 := Nat.mod_lt k hL0
    have hl2 := Nat.mod_lt (k * 7 + 3) hL0
    have hq2 : k / L ≤ k := Nat.div_le_self k L
    refine D.draw1 (by rfl) [[], [0], [0, 1], [0, 1, 2], [], [], [5], [5, 6], [5, 6, 7], [5, 6, 7, 8], [4, 5, 6, 7, 8, 9], [0, 1, 2, 3, 4, 5, 6, 7, 8, 9, 10], [0, 1, 2, 3, 4, 5, 6, 7, 8, 9, 10, 11], [0, 1, 2, 3, 4, 5, 6, 7, 8, 9, 10, 11, 12], [0, 1, 2, 3, 4, 5, 6, 7, 8, 9, 10, 11, 12, 13], [], [15], [15, 16], [15, 16, 17], [], [19], [19, 20], [], [22], [22, 23], [22, 23, 24], [22, 23, 24, 25], [19, 20, 21, 22, 23, 24, 25, 26], [15, 16, 17, 18, 19, 20, 21, 22, 23, 24, 25, 26, 27], [15, 16, 17, 18, 19, 20, 21, 22, 23, 24, 25, 26, 27, 28], [15, 16, 17, 18, 19, 20, 21, 22, 23, 24, 25, 26, 27, 28, 29], [15, 16, 17, 18, 19, 20, 21, 22, 23, 24, 25, 26, 27, 28, 29, 30], [0, 1, 2, 3, 4, 5, 6, 7, 8, 9, 10, 11, 12, 13, 14, 15, 16, 17, 18, 19, 20, 21, 22, 23, 24, 25, 26, 27, 28, 29, 30, 31], [], [33], [0, 1, 2, 3, 4, 5, 6, 7, 8, 9, 10, 11, 12, 13, 14, 15, 16, 17, 18, 19, 20, 21, 22, 23, 24, 25, 26, 27, 28, 29, 30, 31, 32, 33, 34], [], [], [37], [37, 38], [37, 38, 39], [37, 38, 39, 40], [36, 37, 38, 39, 40, 41], [36, 37, 38, 39, 40, 41, 42], [0, 1, 2, 3, 4, 5, 6, 7, 8, 9, 10, 11, 12, 13, 14, 15, 16, 17, 18, 19, 20, 21, 22, 23, 24, 25, 26, 27, 28, 29, 30, 31, 32, 33, 34, 35, 36, 37, 38, 39, 40, 41, 42, 43], [0, 1, 2, 3, 4, 5, 6, 7, 8, 9, 10, 11, 12, 13, 14, 15, 16, 17, 18, 19, 20, 21, 22, 23, 24, 25, 26, 27, 28, 29, 30, 31, 32, 33, 34, 35, 36, 37, 38, 39, 40, 41, 42, 43, 44]] (by simp only [List.length_cons, List.length_nil, Nat.reduceAdd, Nat.reduceLeDiff]) ?_; refine runD_ok (A := [[], [0], [0, 1], [0, 1, 2], [], [], [5], [5, 6], [5, 6, 7], [5, 6, 7, 8], [4, 5, 6, 7, 8, 9], [0, 1, 2, 3, 4, 5, 6, 7, 8, 9, 10], [0, 1, 2, 3, 4, 5, 6, 7, 8, 9, 10, 11], [0, 1, 2, 3, 4, 5, 6, 7, 8, 9, 10, 11, 12], [0, 1, 2, 3, 4, 5, 6, 7, 8, 9, 10, 11, 12, 13], [], [15], [15, 16], [15, 16, 17], [], [19], [19, 20], [], [22], [22, 23], [22, 23, 24], [22, 23, 24, 25], [19, 20, 21, 22, 23, 24, 25, 26], [15, 16, 17, 18, 19, 20, 21, 22, 23, 24, 25, 26, 27], [15, 16, 17, 18, 19, 20, 21, 22, 23, 24, 25, 26, 27, 28], [15, 16, 17, 18, 19, 20, 21, 22, 23, 24, 25, 26, 27, 28, 29], [15, 16, 17, 18, 19, 20, 21, 22, 23, 24, 25, 26, 27, 28, 29, 30], [0, 1, 2, 3, 4, 5, 6, 7, 8, 9, 10, 11, 12, 13, 14, 15, 16, 17, 18, 19, 20, 21, 22, 23, 24, 25, 26, 27, 28, 29, 30, 31], [], [33], [0, 1, 2, 3, 4, 5, 6, 7, 8, 9, 10, 11, 12, 13, 14, 15, 16, 17, 18, 19, 20, 21, 22, 23, 24, 25, 26, 27, 28, 29, 30, 31, 32, 33, 34], [], [], [37], [37, 38], [37, 38, 39], [37, 38, 39, 40], [36, 37, 38, 39, 40, 41], [36, 37, 38, 39, 40, 41, 42], [0, 1, 2, 3, 4, 5, 6, 7, 8, 9, 10, 11, 12, 13, 14, 15, 16, 17, 18, 19, 20, 21, 22, 23, 24, 25, 26, 27, 28, 29, 30, 31, 32, 33, 34, 35, 36, 37, 38, 39, 40, 41, 42, 43], [0, 1, 2, 3, 4, 5, 6, 7, 8, 9, 10, 11, 12, 13, 14, 15, 16, 17, 18, 19, 20, 21, 22, 23, 24, 25, 26, 27, 28, 29, 30, 31, 32, 33, 34, 35, 36, 37, 38, 39, 40, 41, 42, 43, 44]]) (ws := []) (n0 := 2) tok 0 _ _ _ _ rfl ?_; simp only [runD_nil, runD_op, obl, newX, wokB, seenOpts, seenV, seenE, seenL, xOf, wX, Wof, upto, maskH, merge, mergeH, Ent.flag, allW, List.contains_nil, List.contains_cons, List.lookup_nil, Bool.or_false, Bool.or_true, Bool.and_true, Nat.reduceBEq, Nat.sub_self, Nat.le_refl, beq_self_eq_true, and_self, and_true, true_and, ↓reduceIte, dop, ev, ofV, ofLeaf, put, dBin, dConv, dFieldAddr, dIndexAddr, dLen, dBuiltin, dLoad, Row.z, Row.n, Row.at, Ent.w, Ent.m, Ent.row, look, pureP, pureO, tab, TK.agg, List.getD_cons_zero, List.getD_cons_succ, List.set_cons_zero, List.set_cons_succ, Option.map_some, Option.join_some, List.getElem?_cons_zero, List.getElem?_cons_succ, Bool.false_eq_true, true_and, and_true, List.length_cons, List.length_nil, Nat.reduceAdd, List.cons_append, List.nil_append, List.append_nil, List.drop_zero, List.drop_succ_cons, List.drop_nil, List.take_zero, List.take_succ_cons, List.take_nil, List.headD_cons, List.map_cons, List.map_nil, List.all_nil, Bool.and_true, Bool.and_self, Nat.reduceLeDiff, Nat.zero_lt_succ, Nat.lt_add_one, or_true, Nat.add_zero, Nat.zero_add, decide_true, reduceCtorEq]
    simp only [hm1, hq1, hw5, hw6, hm2, Int.toNat_natCast]
    refine ⟨by omega, ⟨by omega, by omega⟩, hl1, by omega, ⟨by omega, by omega⟩, hl2, by omega, ?_⟩
    refine ⟨by rfl, ?_⟩
    refine run_ok tok 400 _ _ ?_; simp only [↓reduceIte, run_opsNil, run_op, run_seq, run_ret, run_region, dop, ev, ofV, ofLeaf, put, dBin, pureP, List.getD_cons_zero, List.getD_cons_succ, List.set_cons_zero, List.set_cons_succ, Option.map_some, true_and]
    have hmx : IntKind.i64.wrap (IntKind.i64.wrap (IntKind.i64.wrap (IntKind.i64.wrap (IntKind.i64.wrap (x (k % L)) * 131) + IntKind.i64.wrap (IntKind.i64.wrap (x ((k * 7 + 3) % L)) * 1117)) + IntKind.i64.wrap (↑k * 29)) + IntKind.i64.wrap (IntKind.i64.wrap ↑(k / L) * 53)) = mixy L x k := by
      unfold mixy
      generalize x (k % L) = A at *
      generalize x ((k * 7 + 3) % L) = B at *
      generalize k / L = q at *
      have w1 : IntKind.i64.wrap A = A := by rw [IntKind.wrap_i64]; omega
      have w2 : IntKind.i64.wrap (A * 131) = A * 131 := by rw [IntKind.wrap_i64]; omega
      have w3 : IntKind.i64.wrap B = B := by rw [IntKind.wrap_i64]; omega
      have w4 : IntKind.i64.wrap (B * 1117) = B * 1117 := by rw [IntKind.wrap_i64]; omega
      have w5 : IntKind.i64.wrap (A * 131 + B * 1117) = A * 131 + B * 1117 := by rw [IntKind.wrap_i64]; omega
      have w6 : IntKind.i64.wrap ((k : Int) * 29) = k * 29 := by rw [IntKind.wrap_i64]; omega
      have w7 : IntKind.i64.wrap (A * 131 + B * 1117 + k * 29) = A * 131 + B * 1117 + k * 29 := by rw [IntKind.wrap_i64]; omega
      have w8 : IntKind.i64.wrap (q : Int) = q := by rw [IntKind.wrap_i64]; omega
      have w9 : IntKind.i64.wrap ((q : Int) * 53) = q * 53 := by rw [IntKind.wrap_i64]; omega
      have w10 : IntKind.i64.wrap (A * 131 + B * 1117 + k * 29 + q * 53) = A * 131 + B * 1117 + k * 29 + q * 53 := by rw [IntKind.wrap_i64]; omega
      rw [w1, w2, w3, w4, w5, w6, w7, w8, w9, w10]
    have hmr : 0 ≤ mixy L x k ∧ mixy L x k ≤ 1000000000 := by
      unfold mixy
      generalize x (k % L) = A at *
      generalize x ((k * 7 + 3) % L) = B at *
      generalize k / L = q at *
      omega
    have hmd : IntKind.i64.wrap ((mixy L x k).tdiv 64) = (mixy L x k).tdiv 64 := by
      obtain ⟨z, hz⟩ : ∃ z : Nat, mixy L x k = z := ⟨(mixy L x k).toNat, by omega⟩
      rw [hz]
      have hd : ((z : Int)).tdiv 64 = ((z / 64 : Nat) : Int) := (Int.ofNat_tdiv z 64).symm
      rw [hd, IntKind.wrap_i64]; omega
    have h5 : ¬ k < L := by omega
    have h6 : ¬ L = 0 := by omega
    have hpk : pk L x k n = (bits .xor .i64 (mixy L x k) ((mixy L x k).tdiv 64)).tmod n := by simp [pk, h1, h5, h6]
    simp only [hmx, hmd]
    refine ⟨by omega, by omega, Out.of [(0, 0), (1, 0)] ?_⟩
    simp (config := {contextual := true}) [outP, outOf, resL, idTo, noW, fstNodup, cV, cE, cL, cLs, cView, cEnt, cRow, cEls, look, Row.z, Row.n, Row.at, Ent.w, Ent.m, Ent.row, hpk]
end Go.Proofs.YtaklcaejeaiagaaE
