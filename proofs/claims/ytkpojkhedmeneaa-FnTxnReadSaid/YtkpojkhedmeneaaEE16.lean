/- A part of the proof of a law of the given program: the logic of runs over laid-out memory. No condition of its own. -/
import Derived.Test.YtkpojkhedmeneaaEE15
namespace Go.Proofs.YtkpojkhedmeneaaE
open Go.RowKit
theorem heap_ext {H H' : Heap} (hl : H.length = H'.length) (h : ∀ b, look H b = look H' b) : H = H' := by
  apply List.ext_getElem?
  intro b
  have := h b
  unfold look at this
  cases h1 : H[b]? with
  | none => rw [List.getElem?_eq_none_iff] at h1; rw [List.getElem?_eq_none (by omega)]
  | some x =>
    have hb := (List.getElem?_eq_some_iff.1 h1).1
    rw [h1, List.getElem?_eq_getElem (by omega)] at this
    rw [List.getElem?_eq_getElem (by omega)]
    simpa using this
def idsL (A : Nat → Prop) : DV → Prop
  | .ptr b _ _ _ => A b
  | .sl b _ _ _ _ => A b
  | .fn _ caps => ∀ b ∈ caps, A b
  | _ => True
theorem seenL.ids {X : List Nat} {n : Nat} {A : Nat → Prop} (hA : ∀ b, b < n → X.contains b = false → A b) {x : DV} (h : seenL X n x) : idsL A x := by
  cases x <;> try trivial
  · exact hA _ h.1 h.2
  · exact hA _ h.1 h.2
  · exact fun b hb => hA _ (h b hb).1 (h b hb).2
theorem leaf_ids {n : Nat} {μ : Mu} {x : DV} {v : Value} (h : Leaf n μ x v) : idsL (· < n) x := by
  cases x <;> try trivial
  · exact h.1
  · exact h.1
  · exact h.1
def idsE (A : Nat → Prop) : DV → Prop
  | .agg l => ∀ x ∈ l, idsL A x
  | x => idsL A x
def idsV (A : Nat → Prop) : DV → Prop
  | .tup l => ∀ x ∈ l, idsE A x
  | x => idsE A x
theorem seenE.ids {X : List Nat} {n : Nat} {A : Nat → Prop} (hA : ∀ b, b < n → X.contains b = false → A b) {x : DV} (h : seenE X n x) : idsE A x := by
  cases x with
  | agg l => exact fun y hy => seenL.ids hA (h y hy)
  | ptr b q i o => exact seenL.ids hA (x := .ptr b q i o) h
  | sl b q i l c => exact seenL.ids hA (x := .sl b q i l c) h
  | fn f c => exact seenL.ids hA (x := .fn f c) h
  | _ => trivial
theorem seenV.ids {X : List Nat} {n : Nat} {A : Nat → Prop} (hA : ∀ b, b < n → X.contains b = false → A b) {x : DV} (h : seenV X n x) : idsV A x := by
  cases x with
  | tup l => exact fun y hy => seenE.ids hA (h y hy)
  | agg l => exact seenE.ids hA (x := .agg l) h
  | ptr b q i o => exact seenE.ids hA (x := .ptr b q i o) h
  | sl b q i l c => exact seenE.ids hA (x := .sl b q i l c) h
  | fn f c => exact seenE.ids hA (x := .fn f c) h
  | _ => trivial
theorem elem_ids {n : Nat} {μ : Mu} {x : DV} {v : Value} (h : Elem n μ x v) : idsE (· < n) x := by
  cases x with
  | agg l =>
    obtain ⟨vs, _, h⟩ := h
    intro y hy
    obtain ⟨i, hi, rfl⟩ := List.mem_iff_getElem.1 hy
    obtain ⟨u, _, hr⟩ := h.get (List.getElem?_eq_getElem hi)
    exact leaf_ids hr
  | ptr b q i o => exact leaf_ids (x := .ptr b q i o) h
  | sl b q i l c => exact leaf_ids (x := .sl b q i l c) h
  | fn f c => exact leaf_ids (x := .fn f c) h
  | _ => trivial
theorem val_ids {n : Nat} {μ : Mu} {x : DV} {v : Value} (h : VRel n μ x v) : idsV (· < n) x := by
  cases x with
  | tup l =>
    obtain ⟨vs, _, h⟩ := h
    intro y hy
    obtain ⟨i, hi, rfl⟩ := List.mem_iff_getElem.1 hy
    obtain ⟨u, _, hr⟩ := h.get (List.getElem?_eq_getElem hi)
    exact elem_ids hr
  | agg l => exact elem_ids (x := .agg l) h
  | ptr b q i o => exact elem_ids (x := .ptr b q i o) h
  | sl b q i l c => exact elem_ids (x := .sl b q i l c) h
  | fn f c => exact elem_ids (x := .fn f c) h
  | _ => trivial
theorem idsL.mono {A B : Nat → Prop} (h : ∀ b, A b → B b) {x : DV} (k : idsL A x) : idsL B x := by
  cases x <;> first | exact h _ k | exact fun b hb => h b (k b hb) | trivial
theorem idsE.mono {A B : Nat → Prop} (h : ∀ b, A b → B b) {x : DV} (k : idsE A x) : idsE B x := by
  cases x <;> first | exact fun y hy => idsL.mono h (k y hy) | exact h _ k | exact fun b hb => h b (k b hb) | trivial
theorem idsV.mono {A B : Nat → Prop} (h : ∀ b, A b → B b) {x : DV} (k : idsV A x) : idsV B x := by
  cases x <;> first | exact fun y hy => idsE.mono h (k y hy) | exact fun y hy => idsL.mono h (k y hy) | exact h _ k | exact fun b hb => h b (k b hb) | trivial
def idsH (A : Nat → Prop) (H : Heap) : Prop := ∀ b e, look H b = some e → ∀ q, q < e.m → ∀ i, i < (e.row q).n → ∀ x ∈ (e.row q).at i, idsL A x
theorem HRel.ids {μ : Mu} {H : Heap} {w : World} (h : HRel μ H w) : idsH (· < H.length) H := by
  intro b e hb q hq i hi x hx
  obtain ⟨cs, t, fz, _, hc⟩ := (h.rows b e hb q hq).cells (by omega)
  obtain ⟨j, hj, rfl⟩ := List.mem_iff_getElem.1 hx
  obtain ⟨v, _, hl⟩ := (hc i hi).2 j _ (List.getElem?_eq_getElem hj)
  exact leaf_ids hl
theorem HRel.leafs {μ : Mu} {H : Heap} {w : World} (h : HRel μ H w) {b : Nat} {e : Ent} (hb : look H b = some e) {q i : Nat} (hq : q < e.m) (hi : i < (e.row q).n) {x : DV} (hx : x ∈ (e.row q).at i) : ∃ v, Leaf H.length μ x v := by
  obtain ⟨cs, t, fz, _, hc⟩ := (h.rows b e hb q hq).cells (by omega)
  obtain ⟨j, hj, rfl⟩ := List.mem_iff_getElem.1 hx
  obtain ⟨v, _, hl⟩ := (hc i hi).2 j _ (List.getElem?_eq_getElem hj)
  exact ⟨v, hl⟩
def rid : Ren := fun b q => (b, q, 0)
def Stay (ρ : Ren) (n : Nat) (b : Nat) : Prop := b < n ∧ ∀ q, ρ b q = (b, q, 0)
theorem leLeaf_id {ρ : Ren} {n n1 : Nat} {μ : Mu} {x : DV} {v : Value} (hv : Leaf n1 μ x v) (h : idsL (Stay ρ n) x) : LeLeaf ρ n x x := by
  cases x with
  | any => trivial
  | ptr b q i o => exact ⟨h.1, by rw [h.2 q]; rfl⟩
  | sl b q i len cap => exact ⟨h.1, .inr ⟨_, Nat.le_refl _, by rw [h.2 q]; rfl⟩⟩
  | fn f caps =>
    refine ⟨fun b hb => ⟨(h b hb).1, by rw [(h b hb).2 0]⟩, ?_⟩
    congr 1
    conv => lhs; rw [← List.map_id caps]
    exact List.map_congr_left fun b hb => by rw [(h b hb).2 0]; rfl
  | agg l => exact hv.elim
  | tup l => exact hv.elim
  | _ => rfl
theorem leElem_id {ρ : Ren} {n n1 : Nat} {μ : Mu} {x : DV} {v : Value} (hv : Elem n1 μ x v) (h : idsE (Stay ρ n) x) : LeElem ρ n x x := by
  cases x with
  | agg l =>
    obtain ⟨vs, _, hl⟩ := hv
    refine ⟨l, rfl, L2.of rfl fun i a b ha hb => ?_⟩
    rw [ha] at hb
    cases hb
    obtain ⟨u, _, hr⟩ := hl.get ha
    exact leLeaf_id hr (h a (List.mem_of_getElem? ha))
  | tup l => exact (show Leaf n1 μ (.tup l) v from hv).elim
  | any => trivial
  | ptr b q i o => exact leLeaf_id (x := .ptr b q i o) hv h
  | sl b q i len cap => exact leLeaf_id (x := .sl b q i len cap) hv h
  | fn f caps => exact leLeaf_id (x := .fn f caps) hv h
  | _ => rfl
theorem leV_id {ρ : Ren} {n n1 : Nat} {μ : Mu} {x : DV} {v : Value} (hv : VRel n1 μ x v) (h : idsV (Stay ρ n) x) : LeV ρ n x x := by
  cases x with
  | tup l =>
    obtain ⟨vs, _, hl⟩ := hv
    refine ⟨l, rfl, L2.of rfl fun i a b ha hb => ?_⟩
    rw [ha] at hb
    cases hb
    obtain ⟨u, _, hr⟩ := hl.get ha
    exact leElem_id hr (h a (List.mem_of_getElem? ha))
  | agg l => exact leElem_id (x := .agg l) hv h
  | any => trivial
  | ptr b q i o => exact leElem_id (x := .ptr b q i o) hv h
  | sl b q i len cap => exact leElem_id (x := .sl b q i len cap) hv h
  | fn f caps => exact leElem_id (x := .fn f caps) hv h
  | _ => rfl
/-- Renamed to a new place, and looked at from the old one. -/
theorem leLeaf_back {σ ρ : Ren} {n n1 : Nat} {μ : Mu} {x : DV} {v : Value} (hv : Leaf n1 μ x v) (h : idsL (fun b => b < n ∧ ∀ q, σ b q = ρ b q ∧ (σ b q).2 = (q, 0)) x) : LeLeaf ρ n (renL σ x) x := by
  cases x with
  | any => trivial
  | ptr b q i o => exact ⟨h.1, by simp only [renL, (h.2 q).1]⟩
  | sl b q i len cap => exact ⟨h.1, .inr ⟨_, Nat.le_refl _, by simp only [renL, (h.2 q).1]⟩⟩
  | fn f caps =>
    have hc : caps.all (fun b => (σ b 0).2.1 == 0 && (σ b 0).2.2 == 0) = true := by
      rw [List.all_eq_true]
      intro b hb
      have := ((h b hb).2 0).2
      simp [this]
    have hr : renL σ (.fn f caps) = .fn f (caps.map fun b => (σ b 0).1) := by
      show (if caps.all (fun b => (σ b 0).2.1 == 0 && (σ b 0).2.2 == 0) then DV.fn f (caps.map fun b => (σ b 0).1) else .any) = _
      rw [if_pos hc]
    rw [hr]
    refine ⟨fun b hb => ⟨(h b hb).1, ?_⟩, ?_⟩
    · rw [← ((h b hb).2 0).1]; exact ((h b hb).2 0).2
    · congr 1
      exact List.map_congr_left fun b hb => by rw [((h b hb).2 0).1]
  | agg l => exact hv.elim
  | tup l => exact hv.elim
  | _ => rfl
def Back (σ ρ : Ren) (n : Nat) (b : Nat) : Prop := b < n ∧ ∀ q, σ b q = ρ b q ∧ (σ b q).2 = (q, 0)
theorem leElem_back {σ ρ : Ren} {n n1 : Nat} {μ : Mu} {x : DV} {v : Value} (hv : Elem n1 μ x v) (h : idsE (Back σ ρ n) x) : LeElem ρ n (renE σ x) x := by
  cases x with
  | agg l =>
    obtain ⟨vs, _, hl⟩ := hv
    refine ⟨l.map (renL σ), rfl, L2.of (by simp) fun i a b ha hb => ?_⟩
    rw [List.getElem?_map, hb] at ha
    cases ha
    obtain ⟨u, _, hr⟩ := hl.get hb
    exact leLeaf_back hr (h b (List.mem_of_getElem? hb))
  | tup l => exact (show Leaf n1 μ (.tup l) v from hv).elim
  | any => trivial
  | ptr b q i o => exact leLeaf_back (x := .ptr b q i o) hv h
  | sl b q i len cap => exact leLeaf_back (x := .sl b q i len cap) hv h
  | fn f caps => exact leLeaf_back (x := .fn f caps) hv h
  | _ => rfl
theorem leV_back {σ ρ : Ren} {n n1 : Nat} {μ : Mu} {x : DV} {v : Value} (hv : VRel n1 μ x v) (h : idsV (Back σ ρ n) x) : LeV ρ n (renV σ x) x := by
  cases x with
  | tup l =>
    obtain ⟨vs, _, hl⟩ := hv
    refine ⟨l.map (renE σ), rfl, L2.of (by simp) fun i a b ha hb => ?_⟩
    rw [List.getElem?_map, hb] at ha
    cases ha
    obtain ⟨u, _, hr⟩ := hl.get hb
    exact leElem_back hr (h b (List.mem_of_getElem? hb))
  | agg l => exact leElem_back (x := .agg l) hv h
  | any => trivial
  | ptr b q i o => exact leElem_back (x := .ptr b q i o) hv h
  | sl b q i len cap => exact leElem_back (x := .sl b q i len cap) hv h
  | fn f caps => exact leElem_back (x := .fn f caps) hv h
  | _ => rfl
structure StpOk (P : Program) (R : Array Oper) (st : Nat → Stp) (r0 : List DV) (H0 : Heap) (j : Nat) : Prop where
  len : (hN st H0 j).length ≤ (st j).H.length
  wok : ∀ b, b ∈ (st j).W → (st j).X.contains b = false ∧ ∃ e, look (hN st H0 j) b = some e ∧ e.w = true ∧ ∀ e', look (st j).H b = some e' → e'.m = e.m ∧ e'.w = true
  neww : ∀ b e, (hN st H0 j).length ≤ b → look (st j).H b = some e → e.w = true
  seen : ∀ b e, (b ∈ (st j).W ∨ (hN st H0 j).length ≤ b) → look (st j).H b = some e → seenEnt (newX H0.length (st j).X) (st j).H.length e
  seenv : seenV (newX H0.length (st j).X) (st j).H.length (st j).v
/-- The registers that an operation reads; the others are not told. -/
def maskR (u : List Tmp) : Nat → List DV → List DV
  | _, [] => []
  | i, x :: r => (if u.contains i then x else .any) :: maskR u (i + 1) r
theorem maskR_length (u : List Tmp) : ∀ (r : List DV) (i : Nat), (maskR u i r).length = r.length
  | [], _ => rfl
  | _ :: r, i => by simp [maskR, maskR_length u r (i + 1)]
theorem maskR_get (u : List Tmp) : ∀ (r : List DV) (i k : Nat) (x : DV), (maskR u i r)[k]? = some x → x = .any ∨ (u.contains (i + k) = true ∧ r[k]? = some x)
  | [], i, k, x, h => by simp [maskR] at h
  | y :: r, i, 0, x, h => by
    simp only [maskR, List.getElem?_cons_zero, Option.some.injEq] at h
    split at h
    · rename_i hu; exact .inr ⟨by simpa using hu, by simp [h]⟩
    · exact .inl h.symm
  | y :: r, i, k + 1, x, h => by
    simp only [maskR, List.getElem?_cons_succ] at h
    rcases maskR_get u r (i + 1) k x h with h | ⟨h1, h2⟩
    · exact .inl h
    · exact .inr ⟨by rw [show i + (k + 1) = i + 1 + k by omega]; exact h1, by simpa using h2⟩
section
variable {P : Program} {R : Array Oper} {st : Nat → Stp} {r0 : List DV} {H0 : Heap} {E : Nat → Bool} {n : Nat}
/-- The blocks that are there when 'E' is done. -/
def alloc (st : Nat → Stp) (H0 : Heap) (n : Nat) (E : Nat → Bool) (b : Nat) : Prop := b < H0.length ∨ ∃ k, k < n ∧ E k = true ∧ (hN st H0 k).length ≤ b ∧ b < (st k).H.length
theorem hN_ids (hs : ∀ k, k < n → (hN st H0 k).length ≤ (st k).H.length) : ∀ k, k ≤ n → ∀ b, b < (hN st H0 k).length → b < H0.length ∨ ∃ m, m < k ∧ (hN st H0 m).length ≤ b ∧ b < (st m).H.length
  | 0, _, b, hb => .inl hb
  | k + 1, hk, b, hb => by
    by_cases h : b < (hN st H0 k).length
    · rcases hN_ids hs k (by omega) b h with h1 | ⟨m, h1, h2⟩
      · exact .inl h1
      · exact .inr ⟨m, by omega, h2⟩
    · rw [hN_succ (hs k (by omega))] at hb
      exact .inr ⟨k, by omega, by omega, hb⟩
/-- What a step sees is there. -/
theorem seen_alloc (hs : ∀ k, k < n → (hN st H0 k).length ≤ (st k).H.length) (hc : ∀ m k, m < k → k < n → E m = false → E k = true → Apart R st H0 m k) {k : Nat} (hk : k < n) (hE : E k = true) :
    ∀ b, b < (st k).H.length → (newX H0.length (st k).X).contains b = false → alloc st H0 n E b := by
  intro b hb hX
  rw [← hN_succ (hs k hk)] at hb
  rcases hN_ids hs (k + 1) (by omega) b hb with h | ⟨m, h1, h2, h3⟩
  · exact .inl h
  · cases hm : E m with
    | true => exact .inr ⟨m, by omega, hm, h2, h3⟩
    | false =>
      have hne : m ≠ k := fun e => by rw [e, hE] at hm; cases hm
      have := newX_contains (lo := H0.length) (Nat.le_trans (hN_mono (st := st) (H0 := H0) (i := 0) (by omega)) h2) ((hc m k (by omega) hk hm hE).new b h2 h3)
      rw [hX] at this; cases this
theorem hE_ids (h0 : idsH (· < H0.length) H0) (hs : ∀ k, k < n → StpOk P R st r0 H0 k) (hc : ∀ m k, m < k → k < n → E m = false → E k = true → Apart R st H0 m k) : ∀ k, k ≤ n → idsH (alloc st H0 n E) (hE st H0 E k)
  | 0, _ => by
    intro b e hb q hq i hi x hx
    have := h0 b e hb q hq i hi x hx
    cases x <;> try trivial
    · exact .inl this
    · exact .inl this
    · exact fun b hb => .inl (this b hb)
  | k + 1, hk => by
    have ih := hE_ids h0 hs hc k (by omega)
    have hlen := hE_length (st := st) (H0 := H0) (E := E) k
    intro b e hb q hq i hi x hx
    simp only [hE] at hb
    cases hE : E k with
    | false =>
      rw [hE] at hb
      simp only [Bool.false_eq_true, if_false, pad_look] at hb
      exact ih b e hb q hq i hi x hx
    | true =>
      rw [hE] at hb
      simp only [if_true, merge_look, hlen] at hb
      have key : (b ∈ (st k).W ∨ (hN st H0 k).length ≤ b) → look (st k).H b = some e → idsL (alloc st H0 n E) x := by
        intro h1 h2
        have h3 := (hs k (by omega)).seen b e h1 h2
        exact seenL.ids (seen_alloc (fun m hm => (hs m hm).len) hc (by omega) hE) (seenRow_at (seenEnt_row h3 hq) hi x hx)
      split at hb
      · split at hb
        · rename_i hw; exact key (.inl (by simpa using hw)) hb
        · exact ih b e hb q hq i hi x hx
      · exact key (.inr (by omega)) hb
/-- The registers' and the heap's state when 'E' is done. -/
structure InvE (μ0 : Mu) (H00 : Heap) (w00 : World) (R : Array Oper) (st : Nat → Stp) (r0 : List DV) (H0 : Heap) (n : Nat) (E : Nat → Bool) (a : Act) (w : World) : Prop where
  ex : ∃ μ, L2 (VRel (hN st H0 n).length μ) (rE R st r0 E n) a.tmps.toList ∧ Step μ0 H00 w00 μ (hE st H0 E n) w
  regs : ∀ x ∈ rE R st r0 E n, idsV (alloc st H0 n E) x
  defers : a.defers = []
end
end Go.Proofs.YtkpojkhedmeneaaE
