/- A part of the proof of a law of the given program: contracts of functions. No condition of its own. -/
import Derived.Test.YtnlohhgcimcmnaaER18
namespace Go.Proofs.YtnlohhgcimcmnaaE
open Go.Proofs
set_option maxRecDepth 100000
theorem and127 (z : Nat) (hz : z < 2 ^ 62) : bits .and .i64 (z : Int) 127 = ((z % 128 : Nat) : Int) := by
  have h1 : ((BitVec.ofInt 64 (z : Int)) &&& (BitVec.ofInt 64 (127 : Int))).toNat = z &&& 127 := by
    rw [BitVec.toNat_and]
    have h2 : (BitVec.ofInt 64 (127 : Int)).toNat = 127 := by decide
    rw [h2]
    simp only [BitVec.ofInt_natCast, BitVec.toNat_ofNat]
    rw [Nat.mod_eq_of_lt (by omega)]
  have h3 : z &&& 127 = z % 128 := Nat.and_two_pow_sub_one_eq_mod z 7
  show IntKind.i64.wrap (((BitVec.ofInt 64 (z : Int)) &&& (BitVec.ofInt 64 (127 : Int))).toNat : Int) = _
  rw [h1, h3, IntKind.wrap_i64]; omega
theorem or128 (z : Nat) (hz : z < 128) : bits .or .i64 (z : Int) 128 = ((128 + z : Nat) : Int) := by
  have h1 : ((BitVec.ofInt 64 (z : Int)) ||| (BitVec.ofInt 64 (128 : Int))).toNat = z ||| 128 := by
    rw [BitVec.toNat_or]
    have h2 : (BitVec.ofInt 64 (128 : Int)).toNat = 128 := by decide
    rw [h2]
    simp only [BitVec.ofInt_natCast, BitVec.toNat_ofNat]
    rw [Nat.mod_eq_of_lt (by omega)]
  have h3 : z ||| 128 = 128 + z := by
    rw [Nat.or_comm]
    exact (Nat.two_pow_add_eq_or_of_lt (i := 7) (b := z) hz 1).symm
  show IntKind.i64.wrap (((BitVec.ofInt 64 (z : Int)) ||| (BitVec.ofInt 64 (128 : Int))).toNat : Int) = _
  rw [h1, h3, IntKind.wrap_i64]; omega
theorem shr7 (z : Nat) : (z : Int) / 2 ^ (7 : Nat) = ((z / 128 : Nat) : Int) := by omega
theorem hc128 (z : Nat) : IntKind.u8.wrap (IntKind.i64.wrap (128 + ((z % 128 : Nat) : Int))) = ((128 + z % 128 : Nat) : Int) := by rw [IntKind.wrap_i64, IntKind.wrap_u8]; omega
theorem hc128b (z : Nat) : IntKind.u8.wrap ((128 + z % 128 : Nat) : Int) = ((128 + z % 128 : Nat) : Int) := by rw [IntKind.wrap_u8]; omega
theorem hc8 (z : Nat) (h : z < 128) : IntKind.u8.wrap (z : Int) = (z : Int) := by rw [IntKind.wrap_u8]; omega
/-- What is at the head of the loop that writes a number. -/
def numS (b : Bool) (l : List Int) (z : Nat) : St :=
  match b with
  | false => ⟨rg 28 [(0, .sl 0 0 0 l.length 0), (1, .i64 z)], [lT l]⟩
  | true => ⟨rg 28 [(0, .sl 1 0 0 l.length 0), (1, .i64 z)], [none, lT l]⟩
theorem zig_lt {n : Int} (h : -1000000 ≤ n ∧ n ≤ 4194304) : zig n < 128 * 128 ^ 4 ∧ zig n ≤ 8388608 := by
  unfold zig; split <;> omega
set_option maxHeartbeats 8000000 in
theorem t74 (o : List Int) (c : Nat) (ho : o.length ≤ 4000000) (n : Int) (hn : -1000000 ≤ n ∧ n ≤ 4194304) : Tri Try.prog 74 [.sl 0 0 0 o.length c, .i64 n] [lT o] (.sl 1 0 0 (o ++ numE n).length 0) [none, lT (o ++ numE n)] := by
  refine Tri.of tok Try.func74 rfl ?_; simp only [Try.ntmps74, Try.results74, List.length_cons, List.length_nil, Nat.reduceAdd, Nat.reduceSub, List.replicate_succ, List.replicate_zero, List.cons_append, List.nil_append]; refine run_ok tok 5 _ _ ?_; simp only [run_zero, run_opsNil, run_op, run_seq, run_region, dop, ev, ofV, ofLeaf, put, List.set_cons_zero, List.set_cons_succ, true_and]
  refine D.join (ι := Unit) (fun _ => numS false o (zig n)) (fun _ => True) ?_ ?_
  · refine run_ok tok 400 _ _ ?_; simp only [↓reduceIte, run_back, run_opsNil, run_op, run_seq, run_cond, run_region, dop, ev, ofV, ofLeaf, put, told, dBin, pureP, List.getD_cons_zero, List.getD_cons_succ, List.set_cons_zero, List.set_cons_succ, Option.map_some, true_and]
    refine ⟨fun q => ?_, fun q => ?_⟩ <;> try simp only [decide_eq_true_eq, decide_eq_false_iff_not] at q
    · have hw : IntKind.i64.wrap (IntKind.i64.wrap (-2 * n) - 1) = ((zig n : Nat) : Int) := by rw [IntKind.wrap_i64, IntKind.wrap_i64]; unfold zig; rw [if_pos q]; omega
      simp only [hw]
      refine ⟨(), [(0, 0)], ?_⟩
      simp (config := {contextual := true}) [idTo, noW, fstNodup, cV, cE, cL, cLs, cVs, cView, cEnt, cRow, look, Row.z, Row.n, Row.at, Ent.w, Ent.m, Ent.row, lessP, rg, numS, rg, List.replicate_succ]
    · have hw : IntKind.i64.wrap (2 * n) = ((zig n : Nat) : Int) := by rw [IntKind.wrap_i64]; unfold zig; rw [if_neg q]; omega
      simp only [hw]
      refine ⟨(), [(0, 0)], ?_⟩
      simp (config := {contextual := true}) [idTo, noW, fstNodup, cV, cE, cL, cLs, cVs, cView, cEnt, cRow, look, Row.z, Row.n, Row.at, Ent.w, Ent.m, Ent.row, lessP, rg, numS, rg, List.replicate_succ]
  rintro _ _
  simp only [numS]
  simp only [rg, List.replicate_succ, List.replicate_zero, List.set_cons_zero, List.set_cons_succ]
  refine run_ok tok 400 _ _ ?_; simp only [run_seq, run_block, run_loop]
  have hz0 := zig_lt hn
  refine D.loopI (ι := Bool × List Int × Nat × Nat) (fun s => numS s.1 s.2.1 s.2.2.2) (fun s => s.2.1 ++ b7 s.2.2.1 s.2.2.2 = o ++ numE n ∧ s.2.2.2 < 128 * 128 ^ s.2.2.1 ∧ s.2.1.length + s.2.2.1 ≤ o.length + 4 ∧ s.2.2.2 ≤ 8388608) (fun s => s.2.2.2) (false, o, 4, zig n) [(0, 0)] ⟨rfl, hz0.1, Nat.le_refl _, hz0.2⟩ ?_ ?_
  · simp (config := {contextual := true}) [idTo, noW, fstNodup, cV, cE, cL, cLs, cVs, cView, cEnt, cRow, look, Row.z, Row.n, Row.at, Ent.w, Ent.m, Ent.row, lessP, rg, numS, rg, List.replicate_succ]
  rintro ⟨b, l, f, z⟩ ⟨he, hz, hlen, hz8⟩
  simp only at he hz hlen hz8
  cases b
  · simp only [numS]
    simp only [rg, List.replicate_succ, List.replicate_zero, List.set_cons_zero, List.set_cons_succ]
    refine run_ok tok 400 _ _ ?_; simp only [↓reduceIte, capJ_zero, run_blk, run_back, run_opsNil, run_op, run_skip, run_seq, run_block, run_cond, run_exit, run_ret, run_region, dop, ev, ofV, ofLeaf, put, told, exitT, dBin, dConv, dBuildSlice, dElems, newRow1, cellsOf, DV.leaf, Row.z, Row.n, Row.at, Ent.w, Ent.m, Ent.row, look, pureP, pureO, newP, tab, List.getD_cons_zero, List.getD_cons_succ, List.set_cons_zero, List.set_cons_succ, Option.map_some, Option.join_some, List.getElem?_cons_zero, List.getElem?_cons_succ, true_and, and_true, List.length_cons, List.length_nil, Nat.reduceAdd, List.cons_append, List.nil_append, List.map_cons, List.map_nil, List.all_cons, List.all_nil, Bool.and_self, Nat.reduceLeDiff, Nat.lt_add_one, Nat.zero_add, List.replicate_succ, List.replicate_zero, dAppend, part, srcP, ownB, killX, Nat.reduceMul]
    refine ⟨fun q => ?_, fun q => ?_⟩ <;> try simp only [decide_eq_true_eq, decide_eq_false_iff_not] at q
    · obtain ⟨f, rfl⟩ : ∃ g, f = g + 1 := ⟨f - 1, by
        rcases Nat.eq_zero_or_pos f with h | h
        · subst h; omega
        · omega⟩
      have hb1 : (z : Int).tmod 128 = ((z % 128 : Nat) : Int) := (Int.ofNat_tmod z 128).symm
      have hb2 : (z : Int).tdiv 128 = ((z / 128 : Nat) : Int) := (Int.ofNat_tdiv z 128).symm
      have hb3 : IntKind.i64.wrap ((z / 128 : Nat) : Int) = ((z / 128 : Nat) : Int) := by rw [IntKind.wrap_i64]; omega
      have hc : IntKind.u8.wrap (IntKind.i64.wrap (128 + ((z % 128 : Nat) : Int))) = ((128 + z % 128 : Nat) : Int) := hc128 z
      refine ⟨by omega, ⟨by omega, fun q hq => by (obtain rfl : q = 0 := by omega); rfl, by omega, by omega⟩, by omega, (true, l ++ [((128 + z % 128 : Nat) : Int)], f, z / 128), [(0, 0), (2, 0)], ⟨by rw [← he, List.append_assoc]; congr 1; simp only [b7]; rw [if_pos (by omega)]; rfl, by rw [Nat.pow_succ] at hz; simp only; omega, by simp only [List.length_append, List.length_cons, List.length_nil]; omega, by simp only; omega⟩, by simp only; omega, ?_⟩
      simp only [hb1, hb2, hb3, hc]
      simp (config := {contextual := true}) [idTo, noW, fstNodup, cV, cE, cL, cVs, cView, cEnt, cRow, look, Row.z, Row.n, Row.at, Ent.w, Ent.m, Ent.row, lessP]
      intro i hi
      by_cases h8 : i < l.length
      · simp [joined, h8, cLs, cL, List.getElem?_append]
      · obtain rfl : i = l.length := by omega
        simp [joined, cLs, cL]
    · have hf : b7 f z = [(z : Int)] := by
        cases f with
        | zero => rfl
        | succ f => simp only [b7]; rw [if_neg (by omega)]
      have hc : IntKind.u8.wrap (z : Int) = (z : Int) := hc8 z (by omega)
      rw [hf] at he
      simp only [← he, hc]
      refine ⟨⟨by omega, fun q hq => by (obtain rfl : q = 0 := by omega); rfl, by omega, by omega⟩, ?_⟩
      refine Out.of [(0, 0), (2, 0)] ?_; simp (config := {contextual := true}) [outP, outOf, resL, idTo, noW, fstNodup, cV, cE, cL, cView, cEnt, cRow, look, Row.z, Row.n, Row.at, Ent.w, Ent.m, Ent.row]
      intro i hi
      by_cases h8 : i < l.length
      · simp [joined, h8, cLs, cL, List.getElem?_append]
      · obtain rfl : i = l.length := by omega
        simp [joined, cLs, cL]
  · simp only [numS]
    simp only [rg, List.replicate_succ, List.replicate_zero, List.set_cons_zero, List.set_cons_succ]
    refine run_ok tok 400 _ _ ?_; simp only [↓reduceIte, capJ_zero, run_blk, run_back, run_opsNil, run_op, run_skip, run_seq, run_block, run_cond, run_exit, run_ret, run_region, dop, ev, ofV, ofLeaf, put, told, exitT, dBin, dConv, dBuildSlice, dElems, newRow1, cellsOf, DV.leaf, Row.z, Row.n, Row.at, Ent.w, Ent.m, Ent.row, look, pureP, pureO, newP, tab, List.getD_cons_zero, List.getD_cons_succ, List.set_cons_zero, List.set_cons_succ, Option.map_some, Option.join_some, List.getElem?_cons_zero, List.getElem?_cons_succ, true_and, and_true, List.length_cons, List.length_nil, Nat.reduceAdd, List.cons_append, List.nil_append, List.map_cons, List.map_nil, List.all_cons, List.all_nil, Bool.and_self, Nat.reduceLeDiff, Nat.lt_add_one, Nat.zero_add, List.replicate_succ, List.replicate_zero, dAppend, part, srcP, ownB, killX, Nat.reduceMul]
    refine ⟨fun q => ?_, fun q => ?_⟩ <;> try simp only [decide_eq_true_eq, decide_eq_false_iff_not] at q
    · obtain ⟨f, rfl⟩ : ∃ g, f = g + 1 := ⟨f - 1, by
        rcases Nat.eq_zero_or_pos f with h | h
        · subst h; omega
        · omega⟩
      have hb1 : (z : Int).tmod 128 = ((z % 128 : Nat) : Int) := (Int.ofNat_tmod z 128).symm
      have hb2 : (z : Int).tdiv 128 = ((z / 128 : Nat) : Int) := (Int.ofNat_tdiv z 128).symm
      have hb3 : IntKind.i64.wrap ((z / 128 : Nat) : Int) = ((z / 128 : Nat) : Int) := by rw [IntKind.wrap_i64]; omega
      have hc : IntKind.u8.wrap (IntKind.i64.wrap (128 + ((z % 128 : Nat) : Int))) = ((128 + z % 128 : Nat) : Int) := hc128 z
      refine ⟨by omega, ⟨by omega, fun q hq => by (obtain rfl : q = 0 := by omega); rfl, by omega, by omega⟩, by omega, (true, l ++ [((128 + z % 128 : Nat) : Int)], f, z / 128), [(0, 0), (3, 0)], ⟨by rw [← he, List.append_assoc]; congr 1; simp only [b7]; rw [if_pos (by omega)]; rfl, by rw [Nat.pow_succ] at hz; simp only; omega, by simp only [List.length_append, List.length_cons, List.length_nil]; omega, by simp only; omega⟩, by simp only; omega, ?_⟩
      simp only [hb1, hb2, hb3, hc]
      simp (config := {contextual := true}) [idTo, noW, fstNodup, cV, cE, cL, cVs, cView, cEnt, cRow, look, Row.z, Row.n, Row.at, Ent.w, Ent.m, Ent.row, lessP]
      intro i hi
      by_cases h8 : i < l.length
      · simp [joined, h8, cLs, cL, List.getElem?_append]
      · obtain rfl : i = l.length := by omega
        simp [joined, cLs, cL]
    · have hf : b7 f z = [(z : Int)] := by
        cases f with
        | zero => rfl
        | succ f => simp only [b7]; rw [if_neg (by omega)]
      have hc : IntKind.u8.wrap (z : Int) = (z : Int) := hc8 z (by omega)
      rw [hf] at he
      simp only [← he, hc]
      refine ⟨⟨by omega, fun q hq => by (obtain rfl : q = 0 := by omega); rfl, by omega, by omega⟩, ?_⟩
      refine Out.of [(0, 0), (3, 0)] ?_; simp (config := {contextual := true}) [outP, outOf, resL, idTo, noW, fstNodup, cV, cE, cL, cView, cEnt, cRow, look, Row.z, Row.n, Row.at, Ent.w, Ent.m, Ent.row]
      intro i hi
      by_cases h8 : i < l.length
      · simp [joined, h8, cLs, cL, List.getElem?_append]
      · obtain rfl : i = l.length := by omega
        simp [joined, cLs, cL]
set_option maxHeartbeats 8000000 in
theorem t80 (o : List Int) (c : Nat) (ho : o.length ≤ 4000000) (n : Int) (hn : -1000000 ≤ n ∧ n ≤ 4194304) : Tri Try.prog 80 [.sl 0 0 0 o.length c, .i64 n] [lT o] (.sl 1 0 0 (o ++ numE n).length 0) [none, lT (o ++ numE n)] := by
  refine Tri.of tok Try.func80 rfl ?_; simp only [Try.ntmps80, Try.results80, List.length_cons, List.length_nil, Nat.reduceAdd, Nat.reduceSub, List.replicate_succ, List.replicate_zero, List.cons_append, List.nil_append]; refine run_ok tok 5 _ _ ?_; simp only [run_zero, run_opsNil, run_op, run_seq, run_region, dop, ev, ofV, ofLeaf, put, List.set_cons_zero, List.set_cons_succ, true_and]
  refine D.join (ι := Unit) (fun _ => numS false o (zig n)) (fun _ => True) ?_ ?_
  · refine run_ok tok 400 _ _ ?_; simp only [↓reduceIte, run_back, run_opsNil, run_op, run_seq, run_cond, run_region, dop, ev, ofV, ofLeaf, put, told, dBin, pureP, List.getD_cons_zero, List.getD_cons_succ, List.set_cons_zero, List.set_cons_succ, Option.map_some, true_and]
    refine ⟨fun q => ?_, fun q => ?_⟩ <;> try simp only [decide_eq_true_eq, decide_eq_false_iff_not] at q
    · have hw : IntKind.i64.wrap (IntKind.i64.wrap (-2 * n) - 1) = ((zig n : Nat) : Int) := by rw [IntKind.wrap_i64, IntKind.wrap_i64]; unfold zig; rw [if_pos q]; omega
      simp only [hw]
      refine ⟨(), [(0, 0)], ?_⟩
      simp (config := {contextual := true}) [idTo, noW, fstNodup, cV, cE, cL, cLs, cVs, cView, cEnt, cRow, look, Row.z, Row.n, Row.at, Ent.w, Ent.m, Ent.row, lessP, rg, numS, rg, List.replicate_succ]
    · have hw : IntKind.i64.wrap (n * 2) = ((zig n : Nat) : Int) := by rw [IntKind.wrap_i64]; unfold zig; rw [if_neg q]; omega
      simp only [hw]
      refine ⟨(), [(0, 0)], ?_⟩
      simp (config := {contextual := true}) [idTo, noW, fstNodup, cV, cE, cL, cLs, cVs, cView, cEnt, cRow, look, Row.z, Row.n, Row.at, Ent.w, Ent.m, Ent.row, lessP, rg, numS, rg, List.replicate_succ]
  rintro _ _
  simp only [numS]
  simp only [rg, List.replicate_succ, List.replicate_zero, List.set_cons_zero, List.set_cons_succ]
  refine run_ok tok 400 _ _ ?_; simp only [run_seq, run_block, run_loop]
  have hz0 := zig_lt hn
  refine D.loopI (ι := Bool × List Int × Nat × Nat) (fun s => numS s.1 s.2.1 s.2.2.2) (fun s => s.2.1 ++ b7 s.2.2.1 s.2.2.2 = o ++ numE n ∧ s.2.2.2 < 128 * 128 ^ s.2.2.1 ∧ s.2.1.length + s.2.2.1 ≤ o.length + 4 ∧ s.2.2.2 ≤ 8388608) (fun s => s.2.2.2) (false, o, 4, zig n) [(0, 0)] ⟨rfl, hz0.1, Nat.le_refl _, hz0.2⟩ ?_ ?_
  · simp (config := {contextual := true}) [idTo, noW, fstNodup, cV, cE, cL, cLs, cVs, cView, cEnt, cRow, look, Row.z, Row.n, Row.at, Ent.w, Ent.m, Ent.row, lessP, rg, numS, rg, List.replicate_succ]
  rintro ⟨b, l, f, z⟩ ⟨he, hz, hlen, hz8⟩
  simp only at he hz hlen hz8
  cases b
  · simp only [numS]
    simp only [rg, List.replicate_succ, List.replicate_zero, List.set_cons_zero, List.set_cons_succ]
    refine run_ok tok 400 _ _ ?_; simp only [↓reduceIte, capJ_zero, Int.reduceToNat, run_blk, run_back, run_opsNil, run_op, run_skip, run_seq, run_block, run_cond, run_exit, run_ret, run_region, dop, ev, ofV, ofLeaf, put, told, exitT, dBin, dConv, dBuildSlice, dElems, newRow1, cellsOf, DV.leaf, Row.z, Row.n, Row.at, Ent.w, Ent.m, Ent.row, look, pureP, pureO, newP, tab, List.getD_cons_zero, List.getD_cons_succ, List.set_cons_zero, List.set_cons_succ, Option.map_some, Option.join_some, List.getElem?_cons_zero, List.getElem?_cons_succ, true_and, and_true, List.length_cons, List.length_nil, Nat.reduceAdd, List.cons_append, List.nil_append, List.map_cons, List.map_nil, List.all_cons, List.all_nil, Bool.and_self, Nat.reduceLeDiff, Nat.lt_add_one, Nat.zero_add, List.replicate_succ, List.replicate_zero, dAppend, part, srcP, ownB, killX, Nat.reduceMul]
    refine ⟨fun q => ?_, fun q => ?_⟩ <;> try simp only [decide_eq_true_eq, decide_eq_false_iff_not] at q
    · obtain ⟨f, rfl⟩ : ∃ g, f = g + 1 := ⟨f - 1, by
        rcases Nat.eq_zero_or_pos f with h | h
        · subst h; omega
        · omega⟩
      have hb1 := and127 z (by omega)
      have hb2 := or128 (z % 128) (by omega)
      have hb3 := shr7 z
      have hc : IntKind.u8.wrap ((128 + z % 128 : Nat) : Int) = ((128 + z % 128 : Nat) : Int) := hc128b z
      refine ⟨⟨by omega, fun q hq => by (obtain rfl : q = 0 := by omega); rfl, by omega, by omega⟩, ⟨by omega, by decide⟩, (true, l ++ [((128 + z % 128 : Nat) : Int)], f, z / 128), [(0, 0), (2, 0)], ⟨by rw [← he, List.append_assoc]; congr 1; simp only [b7]; rw [if_pos (by omega)]; rfl, by rw [Nat.pow_succ] at hz; simp only; omega, by simp only [List.length_append, List.length_cons, List.length_nil]; omega, by simp only; omega⟩, by simp only; omega, ?_⟩
      simp only [hb1, hb2, hb3, hc]
      simp (config := {contextual := true}) [idTo, noW, fstNodup, cV, cE, cL, cVs, cView, cEnt, cRow, look, Row.z, Row.n, Row.at, Ent.w, Ent.m, Ent.row, lessP]
      intro i hi
      by_cases h8 : i < l.length
      · simp [joined, h8, cLs, cL, List.getElem?_append]
      · obtain rfl : i = l.length := by omega
        simp [joined, cLs, cL]
    · have hf : b7 f z = [(z : Int)] := by
        cases f with
        | zero => rfl
        | succ f => simp only [b7]; rw [if_neg (by omega)]
      have hc : IntKind.u8.wrap (z : Int) = (z : Int) := hc8 z (by omega)
      rw [hf] at he
      simp only [← he, hc]
      refine ⟨⟨by omega, fun q hq => by (obtain rfl : q = 0 := by omega); rfl, by omega, by omega⟩, ?_⟩
      refine Out.of [(0, 0), (2, 0)] ?_; simp (config := {contextual := true}) [outP, outOf, resL, idTo, noW, fstNodup, cV, cE, cL, cView, cEnt, cRow, look, Row.z, Row.n, Row.at, Ent.w, Ent.m, Ent.row]
      intro i hi
      by_cases h8 : i < l.length
      · simp [joined, h8, cLs, cL, List.getElem?_append]
      · obtain rfl : i = l.length := by omega
        simp [joined, cLs, cL]
  · simp only [numS]
    simp only [rg, List.replicate_succ, List.replicate_zero, List.set_cons_zero, List.set_cons_succ]
    refine run_ok tok 400 _ _ ?_; simp only [↓reduceIte, capJ_zero, Int.reduceToNat, run_blk, run_back, run_opsNil, run_op, run_skip, run_seq, run_block, run_cond, run_exit, run_ret, run_region, dop, ev, ofV, ofLeaf, put, told, exitT, dBin, dConv, dBuildSlice, dElems, newRow1, cellsOf, DV.leaf, Row.z, Row.n, Row.at, Ent.w, Ent.m, Ent.row, look, pureP, pureO, newP, tab, List.getD_cons_zero, List.getD_cons_succ, List.set_cons_zero, List.set_cons_succ, Option.map_some, Option.join_some, List.getElem?_cons_zero, List.getElem?_cons_succ, true_and, and_true, List.length_cons, List.length_nil, Nat.reduceAdd, List.cons_append, List.nil_append, List.map_cons, List.map_nil, List.all_cons, List.all_nil, Bool.and_self, Nat.reduceLeDiff, Nat.lt_add_one, Nat.zero_add, List.replicate_succ, List.replicate_zero, dAppend, part, srcP, ownB, killX, Nat.reduceMul]
    refine ⟨fun q => ?_, fun q => ?_⟩ <;> try simp only [decide_eq_true_eq, decide_eq_false_iff_not] at q
    · obtain ⟨f, rfl⟩ : ∃ g, f = g + 1 := ⟨f - 1, by
        rcases Nat.eq_zero_or_pos f with h | h
        · subst h; omega
        · omega⟩
      have hb1 := and127 z (by omega)
      have hb2 := or128 (z % 128) (by omega)
      have hb3 := shr7 z
      have hc : IntKind.u8.wrap ((128 + z % 128 : Nat) : Int) = ((128 + z % 128 : Nat) : Int) := hc128b z
      refine ⟨⟨by omega, fun q hq => by (obtain rfl : q = 0 := by omega); rfl, by omega, by omega⟩, ⟨by omega, by decide⟩, (true, l ++ [((128 + z % 128 : Nat) : Int)], f, z / 128), [(0, 0), (3, 0)], ⟨by rw [← he, List.append_assoc]; congr 1; simp only [b7]; rw [if_pos (by omega)]; rfl, by rw [Nat.pow_succ] at hz; simp only; omega, by simp only [List.length_append, List.length_cons, List.length_nil]; omega, by simp only; omega⟩, by simp only; omega, ?_⟩
      simp only [hb1, hb2, hb3, hc]
      simp (config := {contextual := true}) [idTo, noW, fstNodup, cV, cE, cL, cVs, cView, cEnt, cRow, look, Row.z, Row.n, Row.at, Ent.w, Ent.m, Ent.row, lessP]
      intro i hi
      by_cases h8 : i < l.length
      · simp [joined, h8, cLs, cL, List.getElem?_append]
      · obtain rfl : i = l.length := by omega
        simp [joined, cLs, cL]
    · have hf : b7 f z = [(z : Int)] := by
        cases f with
        | zero => rfl
        | succ f => simp only [b7]; rw [if_neg (by omega)]
      have hc : IntKind.u8.wrap (z : Int) = (z : Int) := hc8 z (by omega)
      rw [hf] at he
      simp only [← he, hc]
      refine ⟨⟨by omega, fun q hq => by (obtain rfl : q = 0 := by omega); rfl, by omega, by omega⟩, ?_⟩
      refine Out.of [(0, 0), (3, 0)] ?_; simp (config := {contextual := true}) [outP, outOf, resL, idTo, noW, fstNodup, cV, cE, cL, cView, cEnt, cRow, look, Row.z, Row.n, Row.at, Ent.w, Ent.m, Ent.row]
      intro i hi
      by_cases h8 : i < l.length
      · simp [joined, h8, cLs, cL, List.getElem?_append]
      · obtain rfl : i = l.length := by omega
        simp [joined, cLs, cL]
end Go.Proofs.YtnlohhgcimcmnaaE
