/- A part of the proof of a law of the given program: the logic of runs over laid-out memory. No condition of its own. -/
import Derived.Test.YtkpojkhedmeneaaEE2
namespace Go.Proofs.YtkpojkhedmeneaaE
open Go.RowKit

/-! ### reading a row -/
theorem RowOk.get {n : Nat} {μ : Mu} {row : Row} {p : Spot} {w : World} (h : RowOk n μ row p w) {i : Nat} (hi : i < row.n) :
    ∃ vs : List Value, L2 (Leaf n μ) (row.at i) vs ∧ vs.length = row.z ∧ ∀ j v, vs[j]? = some v → w.cell? ⟨p.g, p.o + i * p.z + j, none⟩ = some v := by
  obtain ⟨cs, t, fz, hh, hc⟩ := h.cells (by omega)
  obtain ⟨hl, hd⟩ := hc i hi
  have hcell : ∀ j, w.cell? ⟨p.g, j, none⟩ = cs[j]? := fun j => cell_of_row w p.g j cs t fz hh
  refine ⟨(cs.toList.drop (p.o + i * p.z)).take row.z, ?_, ?_, ?_⟩
  · have hlen : ((cs.toList.drop (p.o + i * p.z)).take row.z).length = row.z := by
      rcases Nat.eq_zero_or_pos row.z with hz | hz
      · simp [hz]
      · obtain ⟨v, hv, _⟩ := hd (row.z - 1) ((row.at i)[row.z - 1]'(by omega)) (List.getElem?_eq_getElem (by omega))
        have := (Array.getElem?_eq_some_iff.1 hv).1
        simp; omega
    refine L2.of (by rw [hlen, hl]) fun j a b ha hb => ?_
    have hj : j < row.z := by
      have := (List.getElem?_eq_some_iff.1 ha).1; omega
    obtain ⟨v, hv, hr⟩ := hd j a ha
    rw [List.getElem?_take, if_pos hj, List.getElem?_drop] at hb
    have : cs[p.o + i * p.z + j]? = some b := by simpa using hb
    rw [this] at hv
    exact Option.some.inj hv ▸ hr
  · rcases Nat.eq_zero_or_pos row.z with hz | hz
    · simp [hz]
    · obtain ⟨v, hv, _⟩ := hd (row.z - 1) ((row.at i)[row.z - 1]'(by omega)) (List.getElem?_eq_getElem (by omega))
      have := (Array.getElem?_eq_some_iff.1 hv).1
      simp; omega
  · intro j v hv
    rw [List.getElem?_take] at hv
    split at hv
    · rw [List.getElem?_drop] at hv
      rw [hcell]; simpa using hv
    · cases hv
theorem cells_sub {w : World} {g o : Nat} {vs : List Value} (h : ∀ j v, vs[j]? = some v → w.cell? ⟨g, o + j, none⟩ = some v) (k m : Nat) :
    ∀ j v, ((vs.drop k).take m)[j]? = some v → w.cell? ⟨g, o + k + j, none⟩ = some v := by
  intro j v hv
  rw [List.getElem?_take] at hv
  split at hv
  · rw [List.getElem?_drop] at hv
    have := h _ _ hv
    rwa [← Nat.add_assoc] at this
  · cases hv
theorem run_load_ok {P : Program} {t : TypeId} {i : TI} (ht : TOk1 P t i) {w : World} {g o : Nat} {vs : List Value} (hl : vs.length = i.size)
    (h : ∀ j v, vs[j]? = some v → w.cell? ⟨g, o + j, none⟩ = some v) (hs : i.kind.agg = true ∨ i.size = 1) :
    ∃ v, (loadVar t ⟨g, o, none⟩).run P w = .ok v w ∧ (i.kind.agg = true → v = .agg vs.toArray) ∧ (i.kind.agg = false → vs = [v]) := by
  have h' : ∀ j v, vs[j]? = some v → w.cell? ((⟨g, o, none⟩ : Addr).add j) = some v := fun j v hv => by rw [Addr.add_lit]; exact h j v hv
  have hc := run_loadCells_list (P := P) w ⟨g, o, none⟩ vs h'
  cases ha : i.kind.agg with
  | true =>
    refine ⟨.agg vs.toArray, ?_, fun _ => rfl, by simp⟩
    rw [hl] at hc
    simp [loadVar, ht.isAgg, ha, ht.sizeOf, hc]
  | false =>
    have hs1 : i.size = 1 := by rcases hs with h1 | h1; (rw [ha] at h1; cases h1); exact h1
    obtain ⟨v, rfl⟩ : ∃ v, vs = [v] := by
      match vs, hl with
      | [v], _ => exact ⟨v, rfl⟩
      | [], hl => simp at hl; omega
      | _ :: _ :: _, hl => simp at hl; omega
    refine ⟨v, ?_, by simp, fun _ => rfl⟩
    have h0 := h' 0 v rfl
    rw [Addr.add_zero'] at h0
    simp [loadVar, ht.isAgg, ha, h0]
def dLoad (T : Tab) (H : Heap) (t : TypeId) (x : DV) : Option (Prop × DV) :=
  match T t, x with
  | some ti, .ptr b q i o =>
    match look H b with
    | some e => some (q < e.m ∧ i < (e.row q).n ∧ o + ti.size ≤ (e.row q).z ∧ (ti.kind.agg = true ∨ ti.size = 1),
        if ti.kind.agg then .agg ((((e.row q).at i).drop o).take ti.size) else ((((e.row q).at i).drop o).take ti.size).headD .any)
    | none => none
  | _, _ => none
theorem dLoad_ok {P : Program} {T : Tab} (hT : TOk P T) {μ : Mu} {H : Heap} {w : World} (hH : HRel μ H w) {t : TypeId} {x v : DV} {q : Prop} {xv : Value} (h : dLoad T H t x = some (q, v)) (hq : q) (hx : VRel H.length μ x xv) :
    ∃ v', (Instr.loadAt t xv).run P w = .ok v' w ∧ VRel H.length μ v v' := by
  unfold dLoad at h
  split at h
  case h_2 => cases h
  rename_i ti b q i o hti
  split at h
  case h_2 => cases h
  rename_i e he
  obtain ⟨rfl, rfl⟩ := Prod.mk.inj (Option.some.inj h)
  obtain ⟨h1, h2, h3, h4⟩ := hq
  obtain ⟨hb, rfl⟩ : b < H.length ∧ xv = .pointer (some (μ.loc b q i o)) := hx
  have hr := hH.rows b e he q h1
  obtain ⟨vs, hv, hl, hc⟩ := hr.get h2
  have ht := hT t ti hti
  have hv' := (hv.drop o).take ti.size
  have hl' : ((vs.drop o).take ti.size).length = ti.size := by simp; omega
  obtain ⟨u, hu, ha, hn⟩ := run_load_ok (P := P) ht hl' (cells_sub hc o ti.size) h4
  refine ⟨u, by simpa [Instr.loadAt, Instr.sureAddr, Mu.loc] using hu, ?_⟩
  cases hk : ti.kind.agg with
  | true => rw [ha hk]; exact ⟨_, rfl, hv'⟩
  | false =>
    have := hn hk
    rw [this] at hv'
    simp only [Bool.false_eq_true, if_false]
    match hh : (((e.row q).at i).drop o).take ti.size, hv' with
    | [d], hv' => exact hv'.1.val
    | [], hv' => exact hv'.elim
    | _ :: _ :: _, hv' => exact hv'.2.elim

/-! ### writing -/
structure Wrote (w w' : World) (g : Nat) (t : TypeId) (cs cs' : Array Value) : Prop where
  os : w'.os = w.os
  tape : w'.tape = w.tape
  output : w'.output = w.output
  size : w'.heap.size = w.heap.size
  at0 : w.heap[g]? = some (.cells cs t (0, 0))
  at1 : w'.heap[g]? = some (.cells cs' t (0, 0))
  len : cs'.size = cs.size
  other : ∀ k, k ≠ g → w'.heap[k]? = w.heap[k]?
theorem Wrote.refl {w : World} {g : Nat} {t : TypeId} {cs : Array Value} (h : w.heap[g]? = some (.cells cs t (0, 0))) : Wrote w w g t cs cs := ⟨rfl, rfl, rfl, rfl, h, h, rfl, fun _ _ => rfl⟩
theorem Wrote.trans {a b c : World} {g : Nat} {t : TypeId} {x y z : Array Value} (h : Wrote a b g t x y) (k : Wrote b c g t y z) : Wrote a c g t x z :=
  ⟨k.os.trans h.os, k.tape.trans h.tape, k.output.trans h.output, k.size.trans h.size, h.at0, k.at1, k.len.trans h.len, fun j hj => (k.other j hj).trans (h.other j hj)⟩
theorem run_store1 {P : Program} {w : World} {g o : Nat} {t : TypeId} {cs : Array Value} (hg : w.heap[g]? = some (.cells cs t (0, 0))) (ho : o < cs.size) {v : Value} (hv : v.oneCell' = true) :
    ∃ w', (store ⟨g, o, none⟩ v).run P w = .ok () w' ∧ Wrote w w' g t cs (cs.setIfInBounds o v) := by
  refine ⟨w.setCell ⟨g, o, none⟩ v, ?_, rfl, rfl, rfl, by simp, hg, ?_, by simp, fun k hk => heap_setCell_other w ⟨g, o, none⟩ k v hk⟩
  · have hc : w.cell? ⟨g, o, none⟩ = some cs[o] := by rw [cell_of_row w g o cs t (0, 0) hg]; exact Array.getElem?_eq_getElem ho
    rw [run_store P w _ _ _ hv, hc]
    simp [frozen_of_row w g o cs t hg]
  · exact heap_setCell_same w g o cs t v hg
def overlay (cs : Array Value) (o : Nat) (vs : List Value) (cs' : Array Value) : Prop :=
  ∀ j : Nat, cs'[j]? = if o ≤ j ∧ j < o + vs.length then vs[j - o]? else cs[j]?
theorem run_storeCells_ok {P : Program} {g off : Nat} {t : TypeId} (vs : List Value) : ∀ (i : Nat) (w : World) (cs : Array Value), w.heap[g]? = some (.cells cs t (0, 0)) → off + i + vs.length ≤ cs.size →
    (∀ v ∈ vs, v.oneCell' = true) → ∃ w' cs', (storeCells ⟨g, off, none⟩ vs i).run P w = .ok () w' ∧ Wrote w w' g t cs cs' ∧ overlay cs (off + i) vs cs' := by
  induction vs with
  | nil =>
    intro i w cs hg _ _
    refine ⟨w, cs, by simp [storeCells], Wrote.refl hg, fun j => ?_⟩
    rw [if_neg (by simp only [List.length_nil]; omega)]
  | cons v vs ih =>
    intro i w cs hg hl hv
    simp only [List.length_cons] at hl
    obtain ⟨w1, h1, hw1⟩ := run_store1 (P := P) hg (o := off + i) (by omega) (hv v (by simp))
    obtain ⟨w2, cs2, h2, hw2, ho⟩ := ih (i + 1) w1 _ hw1.at1 (by simp; omega) (fun u hu => hv u (by simp [hu]))
    refine ⟨w2, cs2, ?_, hw1.trans hw2, fun j => ?_⟩
    · simp only [storeCells, Sem.run_bind, Addr.add_lit, h1, Result.andThen_ok, h2]
    · rw [ho j]
      by_cases hj : off + (i + 1) ≤ j ∧ j < off + (i + 1) + vs.length
      · rw [if_pos hj, if_pos (by simp; omega)]
        rw [show j - (off + i) = (j - (off + (i + 1))) + 1 by omega]
        rfl
      · rw [if_neg hj]
        by_cases hj2 : j = off + i
        · subst hj2
          rw [if_pos (by simp)]
          rw [Array.getElem?_setIfInBounds]
          simp; omega
        · rw [if_neg (by simp; omega), Array.getElem?_setIfInBounds, if_neg (by omega)]

/-! ### what a write does to the relation -/
theorem look_set {H : Heap} {b : Nat} {x : Option Ent} (k : Nat) (hb : b < H.length) : look (H.set b x) k = if k = b then x else look H k := by
  unfold look
  rw [List.getElem?_set]
  by_cases h : k = b
  · subst h; simp [hb]
  · rw [if_neg (fun e => h e.symm), if_neg h]
theorem look_append {H L : Heap} (k : Nat) : look (H ++ L) k = if k < H.length then look H k else look L (k - H.length) := by
  unfold look
  rw [List.getElem?_append]
  split <;> rfl
theorem look_one {x : Option Ent} (k : Nat) : look [x] k = if k = 0 then x else none := by
  unfold look
  cases k with
  | zero => simp
  | succ k => simp
theorem look_ge {H : Heap} {k : Nat} (h : H.length ≤ k) : look H k = none := by
  unfold look; simp [List.getElem?_eq_none h]
theorem RowOk.same {n n' : Nat} {μ μ' : Mu} (hs : Same n μ μ') (hn : n ≤ n') {row : Row} {p : Spot} {w w' : World} (hg : 0 < row.n → w'.heap[p.g]? = w.heap[p.g]?) (h : RowOk n μ row p w) : RowOk n' μ' row p w' := by
  refine ⟨h.z, fun h0 => ?_⟩
  obtain ⟨cs, t, fz, hh, hc⟩ := h.cells h0
  refine ⟨cs, t, fz, by rw [hg h0]; exact hh, fun i hi => ⟨(hc i hi).1, fun j d hd => ?_⟩⟩
  obtain ⟨v, hv, hr⟩ := (hc i hi).2 j d hd
  exact ⟨v, hv, hr.same hs hn⟩
/-- One row of a block of the call's own is written. -/
theorem HRel.write {μ : Mu} {H : Heap} {w w' : World} (hH : HRel μ H w) {b q : Nat} {e e' : Ent} (hb : look H b = some e) (hw : e.w = true) (hq : q < e.m) (hlv : (μ b q).m ≠ some 0) {t : TypeId} {cs cs' : Array Value}
    (hwr : Wrote w w' (μ b q).g t cs cs') (hm : e'.m = e.m) (hw' : e'.w = true) (ho : ∀ q', q' < e.m → q' ≠ q → e'.row q' = e.row q') (hr : RowOk H.length μ (e'.row q) (μ b q) w') : Step μ H w μ (H.set b (some e')) w' := by
  have hbl := look_lt hb
  have hlen : (H.set b (some e')).length = H.length := by simp
  have other : ∀ b2 e2 q2, look H b2 = some e2 → q2 < e2.m → (b2 ≠ b ∨ q2 ≠ q) → Lv μ b2 q2 e2 → w'.heap[(μ b2 q2).g]? = w.heap[(μ b2 q2).g]? := fun b2 e2 q2 h1 h2 h3 h4 =>
    hwr.other _ (fun he => hH.inj b e q b2 e2 q2 hb hw hq hlv h1 h2 (by rcases h3 with h3 | h3; (exact .inl fun x => h3 x.symm); (exact .inr fun x => h3 x.symm)) h4 he.symm)
  refine ⟨hwr.os, hwr.tape, hwr.output, by rw [hwr.size]; exact Nat.le_refl _, fun k hk hn => hwr.other k (fun he => hn b e q hb hw hq hlv he.symm), Same.refl _ _, by rw [hlen]; exact Nat.le_refl _, ⟨?_, ?_, ?_⟩, ?_⟩
  · intro b2 e2 h2 q2 hq2
    rw [look_set _ hbl] at h2
    rw [hlen]
    split at h2
    · rename_i hbb; subst hbb
      obtain rfl := Option.some.inj h2
      by_cases hqq : q2 = q
      · subst hqq; exact hr
      · rw [ho q2 (by omega) hqq]
        exact (hH.rows _ e hb q2 (by omega)).same (Same.refl _ _) (Nat.le_refl _) (fun hn => other _ e q2 hb (by omega) (.inr hqq) (.inr hn))
    · rename_i hbb
      exact (hH.rows b2 e2 h2 q2 hq2).same (Same.refl _ _) (Nat.le_refl _) (fun hn => other b2 e2 q2 h2 hq2 (.inl hbb) (.inr hn))
  · intro b2 e2 h2 hw2 q2 hq2
    rw [look_set _ hbl] at h2
    split at h2
    · rename_i hbb; subst hbb
      obtain rfl := Option.some.inj h2
      by_cases hqq : q2 = q
      · subst hqq
        obtain ⟨cs0, t0, m0, k1, k2, k3⟩ := hH.ownc hb hw (q := q2) (by omega) hlv
        rw [hwr.at0] at k1
        obtain ⟨rfl, rfl, _⟩ := Obj.cells.inj (Option.some.inj k1)
        exact ⟨m0, k2, fun _ => by rcases Nat.eq_zero_or_pos m0 with h | h; (subst h; exact absurd k2 hlv); exact h, fun _ => ⟨cs', t, hwr.at1, by rw [hwr.len]; exact k3⟩⟩
      · obtain ⟨m0, k2, k4, k3⟩ := hH.own _ e hb hw q2 (by omega)
        rw [ho q2 (by omega) hqq]
        refine ⟨m0, k2, k4, fun h0 => ?_⟩
        obtain ⟨cs0, t0, k1, k5⟩ := k3 h0
        exact ⟨cs0, t0, by rw [other _ e q2 hb (by omega) (.inr hqq) (.inl ⟨hw, by rw [k2]; intro h; cases h; omega⟩)]; exact k1, k5⟩
    · rename_i hbb
      obtain ⟨m0, k2, k4, k3⟩ := hH.own b2 e2 h2 hw2 q2 hq2
      refine ⟨m0, k2, k4, fun h0 => ?_⟩
      obtain ⟨cs0, t0, k1, k5⟩ := k3 h0
      exact ⟨cs0, t0, by rw [other b2 e2 q2 h2 hq2 (.inl hbb) (.inl ⟨hw2, by rw [k2]; intro h; cases h; omega⟩)]; exact k1, k5⟩
  · intro b1 e1 q1 b2 e2 q2 h1 hw1 hq1 hm1 h2 hq2 hne hlv2
    rw [look_set _ hbl] at h1 h2
    have f : ∀ {bb ee qq}, (if bb = b then some e' else look H bb) = some ee → ee.w = true ∨ True → qq < ee.m → ∃ e0, look H bb = some e0 ∧ qq < e0.m ∧ (ee.w = true → e0.w = true) ∧ (Lv μ bb qq ee → Lv μ bb qq e0) := by
      intro bb ee qq hh _ hqq
      split at hh
      · rename_i hx; subst hx
        obtain rfl := Option.some.inj hh
        refine ⟨e, hb, by omega, fun _ => hw, fun hl => ?_⟩
        by_cases hqq' : qq = q
        · subst hqq'; exact .inl ⟨hw, hlv⟩
        · rcases hl with hl | hl
          · exact .inl ⟨hw, hl.2⟩
          · rw [ho qq (by omega) hqq'] at hl; exact .inr hl
      · exact ⟨ee, hh, hqq, id, id⟩
    obtain ⟨x1, y1, z1, u1, _⟩ := f h1 (.inr trivial) hq1
    obtain ⟨x2, y2, z2, u2, v2⟩ := f h2 (.inr trivial) hq2
    exact hH.inj b1 x1 q1 b2 x2 q2 y1 (u1 hw1) z1 hm1 y2 z2 hne (v2 hlv2)
  · intro b2 e2 q2 h2 hw2 hq2 hm2
    rw [look_set _ hbl] at h2
    split at h2
    · rename_i hx; subst hx
      obtain rfl := Option.some.inj h2
      exact .inr ⟨_, e, q2, hb, hw, by omega, hm2, rfl⟩
    · exact .inr ⟨b2, e2, q2, h2, hw2, hq2, hm2, rfl⟩
/-- A block is not looked at any more. -/
theorem HRel.kill {μ : Mu} {H : Heap} {w : World} (hH : HRel μ H w) (b : Nat) : HRel μ (H.set b none) w := by
  have hl : (H.set b none).length = H.length := by simp
  have f : ∀ {bb ee}, look (H.set b none) bb = some ee → look H bb = some ee := by
    intro bb ee h
    by_cases hb : b < H.length
    · rw [look_set _ hb] at h; split at h; (cases h); exact h
    · rwa [List.set_eq_of_length_le (by omega)] at h
  exact ⟨fun b1 e1 h1 q1 hq => by rw [hl]; exact hH.rows b1 e1 (f h1) q1 hq, fun b1 e1 h1 => hH.own b1 e1 (f h1), fun b1 e1 q1 b2 e2 q2 h1 hw1 hq1 hm1 h2 => hH.inj b1 e1 q1 b2 e2 q2 (f h1) hw1 hq1 hm1 (f h2)⟩
theorem Step.kill {μ μ' : Mu} {H H' : Heap} {w w' : World} (h : Step μ H w μ' H' w') (b : Nat) : Step μ H w μ' (H'.set b none) w' := by
  refine ⟨h.os, h.tape, h.output, h.size, h.frame, h.mu, by simpa using h.len, h.hrel.kill b, fun b1 e1 q1 h1 hw hq => ?_⟩
  refine h.fresh b1 e1 q1 ?_ hw hq
  by_cases hb : b < H'.length
  · rw [look_set _ hb] at h1; split at h1; (cases h1); exact h1
  · rwa [List.set_eq_of_length_le (by omega)] at h1
def Mu.ext (μ : Mu) (n : Nat) (s : Spot) : Mu := fun b q => if b = n then s else μ b q
theorem Mu.ext_at (μ : Mu) (n : Nat) (s : Spot) (q : Nat) : μ.ext n s n q = s := by simp [Mu.ext]
theorem Mu.ext_same (μ : Mu) (n : Nat) (s : Spot) : Same n μ (μ.ext n s) := fun b hb => by
  funext q; simp [Mu.ext, Nat.ne_of_lt hb]
/-- A new block of the call's own: fresh, or the room of one that is given up. -/
theorem HRel.new {μ : Mu} {H : Heap} {w w' : World} (hH : HRel μ H w) {row : Row} {s : Spot} (os : w'.os = w.os) (tape : w'.tape = w.tape) (output : w'.output = w.output) (size : w.heap.size ≤ w'.heap.size)
    (other : ∀ k, k < w.heap.size → k ≠ s.g → w'.heap[k]? = w.heap[k]?) (hnew : w.heap.size ≤ s.g) (hr : RowOk (H.length + 1) (μ.ext H.length s) row s w')
    (hown : ∃ cs t m, w'.heap[s.g]? = some (.cells cs t (0, 0)) ∧ s.m = some m ∧ s.o + m * s.z ≤ cs.size ∧ (0 < row.n → 0 < m)) : Step μ H w (μ.ext H.length s) (H ++ [some (.one true row)]) w' := by
  have hlen : (H ++ [some (Ent.one true row)]).length = H.length + 1 := by simp
  have hsame := μ.ext_same H.length s
  have f : ∀ {b e}, look (H ++ [some (Ent.one true row)]) b = some e → (look H b = some e ∧ b < H.length) ∨ (b = H.length ∧ e = .one true row) := by
    intro b e h
    rw [look_append] at h
    split at h
    · exact .inl ⟨h, ‹_›⟩
    · rw [look_one] at h
      split at h
      · exact .inr ⟨by omega, (Option.some.inj h).symm⟩
      · cases h
  have hold : ∀ {b e q}, look H b = some e → q < e.m → Lv μ b q e → w'.heap[(μ b q).g]? = w.heap[(μ b q).g]? := fun hb hq hl =>
    other _ (hH.lt hb hq hl) (by have := hH.lt hb hq hl; omega)
  refine ⟨os, tape, output, size, fun k hk _ => other k hk (by omega), hsame, by omega, ⟨?_, ?_, ?_⟩, ?_⟩
  · intro b e h q hq
    rw [hlen]
    rcases f h with ⟨h1, h2⟩ | ⟨rfl, rfl⟩
    · rw [hsame b h2]
      exact (hH.rows b e h1 q hq).same hsame (by omega) (fun hn => hold h1 hq (.inr hn))
    · rw [Mu.ext_at]; exact hr
  · intro b e h hw q hq
    rcases f h with ⟨h1, h2⟩ | ⟨rfl, rfl⟩
    · rw [hsame b h2]
      obtain ⟨m0, k2, k4, k3⟩ := hH.own b e h1 hw q hq
      refine ⟨m0, k2, k4, fun h0 => ?_⟩
      rw [hold h1 hq (.inl ⟨hw, by rw [k2]; intro h; cases h; omega⟩)]
      exact k3 h0
    · rw [Mu.ext_at]
      obtain ⟨cs, t, m, o1, o2, o3, o4⟩ := hown
      exact ⟨m, o2, o4, fun _ => ⟨cs, t, o1, o3⟩⟩
  · intro b1 e1 q1 b2 e2 q2 h1 hw1 hq1 hm1 h2 hq2 hne hlv
    rcases f h1 with ⟨k1, l1⟩ | ⟨rfl, rfl⟩
    · rcases f h2 with ⟨k2, l2⟩ | ⟨rfl, rfl⟩
      · rw [hsame b1 l1, hsame b2 l2]
        rw [hsame b1 l1] at hm1
        refine hH.inj b1 e1 q1 b2 e2 q2 k1 hw1 hq1 hm1 k2 hq2 hne ?_
        unfold Lv at hlv ⊢
        rwa [hsame b2 l2] at hlv
      · rw [hsame b1 l1] at hm1
        rw [hsame b1 l1, Mu.ext_at]
        have := hH.lt k1 hq1 (.inl ⟨hw1, hm1⟩); omega
    · rcases f h2 with ⟨k2, l2⟩ | ⟨rfl, rfl⟩
      · rw [hsame b2 l2, Mu.ext_at]
        have := hH.lt k2 hq2 (by unfold Lv at hlv ⊢; rwa [hsame b2 l2] at hlv); omega
      · simp only [Ent.m] at hq1 hq2
        omega
  · intro b e q h hw hq hm
    rcases f h with ⟨h1, h2⟩ | ⟨rfl, rfl⟩
    · rw [hsame b h2] at hm ⊢; exact .inr ⟨b, e, q, h1, hw, hq, hm, rfl⟩
    · rw [Mu.ext_at]; exact .inl hnew
end Go.Proofs.YtkpojkhedmeneaaE
