/- A part of the proof of a law of the given program: the logic of runs over laid-out memory. No condition of its own. -/
import Derived.Test.YtkpojkhedmeneaaEE9
namespace Go.Proofs.YtkpojkhedmeneaaE
open Go.RowKit

/-! ### renamed -/
def renL (σ : Ren) : DV → DV
  | .ptr b q i o => .ptr (σ b q).1 (σ b q).2.1 (i + (σ b q).2.2) o
  | .sl b q i len cap => .sl (σ b q).1 (σ b q).2.1 (i + (σ b q).2.2) len cap
  | .fn f caps => if caps.all (fun b => (σ b 0).2.1 == 0 && (σ b 0).2.2 == 0) then .fn f (caps.map fun b => (σ b 0).1) else .any
  | .agg _ => .any
  | .tup _ => .any
  | x => x
def renE (σ : Ren) : DV → DV
  | .agg l => .agg (l.map (renL σ))
  | x => renL σ x
def renV (σ : Ren) : DV → DV
  | .tup l => .tup (l.map (renE σ))
  | x => renE σ x
def Row.ren (σ : Ren) : Row → Row
  | .lst z xs => .lst z (xs.map fun l => l.map (renL σ))
  | .arr z n f => .arr z n fun i => (f i).map (renL σ)
def Ent.ren (σ : Ren) : Ent → Ent
  | .one w r => .one w (r.ren σ)
  | .fam w m f => .fam w m fun q => (f q).ren σ
theorem Row.ren_z (σ : Ren) (r : Row) : (r.ren σ).z = r.z := by cases r <;> rfl
theorem Row.ren_n (σ : Ren) (r : Row) : (r.ren σ).n = r.n := by cases r <;> simp [Row.ren, Row.n]
theorem Row.ren_at (σ : Ren) (r : Row) (i : Nat) : (r.ren σ).at i = (r.at i).map (renL σ) := by
  cases r with
  | lst z xs =>
    simp only [Row.ren, Row.at, List.getD_eq_getElem?_getD, List.getElem?_map]
    cases xs[i]? <;> rfl
  | arr z n f => rfl
theorem Ent.ren_w (σ : Ren) (e : Ent) : (e.ren σ).w = e.w := by cases e <;> rfl
theorem Ent.ren_m (σ : Ren) (e : Ent) : (e.ren σ).m = e.m := by cases e <;> rfl
theorem Ent.ren_row (σ : Ren) (e : Ent) (q : Nat) : (e.ren σ).row q = (e.row q).ren σ := by cases e <;> rfl
structure RenOk (n : Nat) (ν : Mu) (σ : Ren) (n' : Nat) (μ : Mu) : Prop where
  lt : ∀ b, b < n → ∀ q, (σ b q).1 < n'
  mu : ∀ b, b < n → ∀ q, ν b q = μ.via σ b q
theorem RenOk.loc {n n' : Nat} {ν μ : Mu} {σ : Ren} (h : RenOk n ν σ n' μ) {b : Nat} (hb : b < n) (q i o : Nat) : ν.loc b q i o = μ.loc (σ b q).1 (σ b q).2.1 (i + (σ b q).2.2) o := by
  rw [← Mu.via_loc]
  unfold Mu.loc
  rw [h.mu b hb]
theorem renL_ok {n n' : Nat} {ν μ : Mu} {σ : Ren} (h : RenOk n ν σ n' μ) {x : DV} {v : Value} (k : Leaf n ν x v) : Leaf n' μ (renL σ x) v := by
  cases x with
  | ptr b q i o => exact ⟨h.lt b k.1 q, by rw [k.2, h.loc k.1]⟩
  | sl b q i len cap =>
    refine ⟨h.lt b k.1 q, ?_⟩
    rcases k.2 with k2 | ⟨a, c, h1, h2, h3, h4⟩
    · exact .inl k2
    · refine .inr ⟨a, c, h1, h2, h3, ?_⟩
      rcases h4 with h4 | ⟨h4, h5⟩
      · exact .inl h4
      · by_cases hc : c = 0
        · exact .inl hc
        refine .inr ⟨by rw [h4, h.loc k.1], fun m hm => ?_⟩
        have hh := h.mu b k.1 q
        have := h5 (m - (σ b q).2.2) (by rw [hh]; simp [Mu.via, hm])
        omega
  | fn f caps =>
    show Leaf n' μ (if caps.all (fun b => (σ b 0).2.1 == 0 && (σ b 0).2.2 == 0) then .fn f (caps.map fun b => (σ b 0).1) else .any) v
    split
    · rename_i hc
      rw [List.all_eq_true] at hc
      refine ⟨fun b hb => ?_, ?_⟩
      · obtain ⟨b0, h0, rfl⟩ := List.mem_map.1 hb
        exact h.lt b0 (k.1 b0 h0) 0
      · rw [k.2, List.map_map]
        congr 2
        refine List.map_congr_left fun b hb => ?_
        have := hc b hb
        simp only [Bool.and_eq_true, beq_iff_eq] at this
        simp only [Function.comp]
        rw [h.loc (k.1 b hb), this.1, this.2]
    · exact trivial
  | agg l => exact k.elim
  | tup l => exact k.elim
  | _ => exact k
theorem renE_ok {n n' : Nat} {ν μ : Mu} {σ : Ren} (h : RenOk n ν σ n' μ) {x : DV} {v : Value} (k : Elem n ν x v) : Elem n' μ (renE σ x) v := by
  cases x with
  | agg l =>
    obtain ⟨vs, rfl, k⟩ := k
    refine ⟨vs, rfl, L2.of (by rw [List.length_map]; exact k.length) fun i a b ha hb => ?_⟩
    rw [List.getElem?_map] at ha
    obtain ⟨d, hd, r⟩ := k.get' hb
    rw [hd] at ha
    cases ha
    exact renL_ok h r
  | tup l => exact (show Leaf n ν (.tup l) v from k).elim
  | any => exact trivial
  | ptr b q i o => exact (renL_ok (x := .ptr b q i o) h k).elem
  | sl b q i len cap => exact (renL_ok (x := .sl b q i len cap) h k).elem
  | fn f caps => exact (renL_ok (x := .fn f caps) h k).elem
  | _ => exact k
theorem renV_ok {n n' : Nat} {ν μ : Mu} {σ : Ren} (h : RenOk n ν σ n' μ) {x : DV} {v : Value} (k : VRel n ν x v) : VRel n' μ (renV σ x) v := by
  cases x with
  | tup l =>
    obtain ⟨vs, rfl, k⟩ := k
    refine ⟨vs, rfl, L2.of (by rw [List.length_map]; exact k.length) fun i a b ha hb => ?_⟩
    rw [List.getElem?_map] at ha
    obtain ⟨d, hd, r⟩ := k.get' hb
    rw [hd] at ha
    cases ha
    exact renE_ok h r
  | agg l => exact (renE_ok (x := .agg l) h k).val
  | any => exact trivial
  | ptr b q i o => exact (renE_ok (x := .ptr b q i o) h k).val
  | sl b q i len cap => exact (renE_ok (x := .sl b q i len cap) h k).val
  | fn f caps => exact (renE_ok (x := .fn f caps) h k).val
  | _ => exact k
theorem RowOk.ren {n n' : Nat} {ν μ : Mu} {σ : Ren} (h : RenOk n ν σ n' μ) {row : Row} {p : Spot} {w : World} (k : RowOk n ν row p w) : RowOk n' μ (row.ren σ) p w := by
  refine ⟨by rw [Row.ren_z]; exact k.z, fun hn => ?_⟩
  rw [Row.ren_n] at hn
  obtain ⟨cs, t, fz, hh, hc⟩ := k.cells hn
  refine ⟨cs, t, fz, hh, fun i hi => ?_⟩
  rw [Row.ren_n] at hi
  rw [Row.ren_at, Row.ren_z, List.length_map]
  refine ⟨(hc i hi).1, fun j d hd => ?_⟩
  rw [List.getElem?_map] at hd
  cases hx : (row.at i)[j]? with
  | none => rw [hx] at hd; cases hd
  | some d0 =>
    rw [hx] at hd
    cases hd
    obtain ⟨v, hv, hl⟩ := (hc i hi).2 j d0 hx
    exact ⟨v, hv, renL_ok h hl⟩

/-! ### a call, seen from the caller -/
def backH (σ : Ren) (Hs' : Heap) (js : List (Nat × Nat)) : Nat → Heap → Heap
  | _, [] => []
  | b, x :: H => (match js.lookup b with | some j => (look Hs' j).map (Ent.ren σ) | none => x) :: backH σ Hs' js (b + 1) H
theorem backH_length (σ : Ren) (Hs' : Heap) (js : List (Nat × Nat)) : ∀ (H : Heap) (b : Nat), (backH σ Hs' js b H).length = H.length
  | [], _ => rfl
  | _ :: H, b => by simp [backH, backH_length σ Hs' js H (b + 1)]
theorem backH_look (σ : Ren) (Hs' : Heap) (js : List (Nat × Nat)) : ∀ (H : Heap) (b k : Nat), k < H.length → look (backH σ Hs' js b H) k = match js.lookup (b + k) with | some j => (look Hs' j).map (Ent.ren σ) | none => look H k
  | [], _, _, h => by simp at h
  | x :: H, b, 0, _ => by simp [backH, look]
  | x :: H, b, k + 1, h => by
    have := backH_look σ Hs' js H (b + 1) k (by simpa using h)
    have e1 : look (backH σ Hs' js b (x :: H)) (k + 1) = look (backH σ Hs' js (b + 1) H) k := by simp [backH, look]
    have e2 : look (x :: H) (k + 1) = look H k := by simp [look]
    rw [e1, this, e2, show b + 1 + k = b + (k + 1) by omega]
theorem backH_nil (σ : Ren) (Hs' : Heap) : ∀ (H : Heap) (b : Nat), backH σ Hs' [] b H = H
  | [], _ => rfl
  | x :: H, b => by simp [backH, backH_nil σ Hs' H (b + 1)]
def afterH (σ : Ren) (ns : Nat) (js : List (Nat × Nat)) (H Hs' : Heap) : Heap := backH σ Hs' js 0 H ++ (Hs'.drop ns).map fun x => x.map (Ent.ren σ)
def sigma (ρ : Ren) (ns nc : Nat) : Ren := fun b q => if b < ns then ρ b q else (nc + (b - ns), q, 0)
theorem look_drop_map (σ : Ren) (Hs' : Heap) (ns k : Nat) : look ((Hs'.drop ns).map fun x => x.map (Ent.ren σ)) k = (look Hs' (ns + k)).map (Ent.ren σ) := by
  unfold look
  rw [List.getElem?_map, List.getElem?_drop]
  cases Hs'[ns + k]? with
  | none => rfl
  | some x => cases x <;> rfl
/-- What a call leaves, in the caller's heap: 'js' tells which of the caller's blocks are written by which block of the callee's. -/
theorem Step.back {ρ : Ren} {μ ν' : Mu} {H Hs Hs' : Heap} {w w' : World} {js : List (Nat × Nat)} (hH : HRel μ H w) (hv : View ρ H Hs) (hρ : ∀ b, b < Hs.length → ∀ q, (ρ b q).1 < H.length)
    (h : Step (μ.via ρ) Hs w ν' Hs' w')
    (hj1 : ∀ b j, js.lookup b = some j → b < H.length ∧ j < Hs.length ∧ (∀ q, ρ j q = (b, q, 0)) ∧ (∃ e, look Hs j = some e ∧ e.w = true ∧ ∀ e', look Hs' j = some e' → e'.m = e.m ∧ e'.w = true))
    (hj2 : ∀ j e, look Hs j = some e → e.w = true → js.lookup (ρ j 0).1 = some j ∧ ∀ q, (ρ j q).1 = (ρ j 0).1)
    (hj3 : ∀ k e, look Hs' (Hs.length + k) = some e → e.w = true) :
    ∃ μ', (∀ x v, VRel Hs'.length ν' x v → VRel (afterH (sigma ρ Hs.length H.length) Hs.length js H Hs').length μ' (renV (sigma ρ Hs.length H.length) x) v) ∧ Step μ H w μ' (afterH (sigma ρ Hs.length H.length) Hs.length js H Hs') w' := by
  generalize hσ : sigma ρ Hs.length H.length = σ
  let μ' : Mu := fun b q => if b < H.length then μ b q else ν' (Hs.length + (b - H.length)) q
  have hlen : (afterH σ Hs.length js H Hs').length = H.length + (Hs'.length - Hs.length) := by simp [afterH, backH_length]
  have hle := h.len
  have hsame : Same H.length μ μ' := fun b hb => by funext q; simp [μ', hb]
  have hnew : ∀ k q, μ' (H.length + k) q = ν' (Hs.length + k) q := fun k q => by
    have hk : ¬ (H.length + k < H.length) := by omega
    simp [μ', hk]
  have hren : RenOk Hs'.length ν' σ (H.length + (Hs'.length - Hs.length)) μ' := by
    refine ⟨fun b hb q => ?_, fun b hb q => ?_⟩
    · rw [← hσ]; unfold sigma
      split
      · rename_i h1; have := hρ b h1 q; omega
      · simp only; omega
    · rw [← hσ]
      by_cases h1 : b < Hs.length
      · have e1 : ν' b q = μ.via ρ b q := by rw [h.mu b h1]
        have e2 : sigma ρ Hs.length H.length b q = ρ b q := by simp [sigma, h1]
        rw [e1]
        unfold Mu.via
        rw [e2, hsame _ (hρ b h1 q)]
      · have e2 : sigma ρ Hs.length H.length b q = (H.length + (b - Hs.length), q, 0) := by simp [sigma, h1]
        rw [Mu.via_id _ e2, hnew, show Hs.length + (b - Hs.length) = b by omega]
  -- what an entry behind the call is
  have hlook : ∀ {b e}, look (afterH σ Hs.length js H Hs') b = some e →
      (b < H.length ∧ js.lookup b = none ∧ look H b = some e) ∨ (∃ j e0, b < H.length ∧ js.lookup b = some j ∧ look Hs' j = some e0 ∧ e = e0.ren σ) ∨ (∃ k e0, b = H.length + k ∧ look Hs' (Hs.length + k) = some e0 ∧ e = e0.ren σ) := by
    intro b e hb
    unfold afterH at hb
    rw [look_append, backH_length] at hb
    split at hb
    · rename_i hlt
      rw [backH_look σ Hs' js H 0 b hlt, Nat.zero_add] at hb
      cases hx : js.lookup b with
      | none => rw [hx] at hb; exact .inl ⟨hlt, rfl, hb⟩
      | some j =>
        rw [hx] at hb
        simp only at hb
        cases hy : look Hs' j with
        | none => rw [hy] at hb; cases hb
        | some e0 => rw [hy] at hb; cases hb; exact .inr (.inl ⟨j, e0, hlt, rfl, hy, rfl⟩)
    · rename_i hlt
      rw [look_drop_map] at hb
      cases hy : look Hs' (Hs.length + (b - H.length)) with
      | none => rw [hy] at hb; cases hb
      | some e0 => rw [hy] at hb; cases hb; exact .inr (.inr ⟨b - H.length, e0, by omega, hy, rfl⟩)
  -- a block of the caller that the callee may write
  have himg : ∀ {j e q}, look Hs j = some e → e.w = true → q < e.m → ∃ ec, look H (ρ j 0).1 = some ec ∧ ec.w = true ∧ q < ec.m ∧ js.lookup (ρ j 0).1 = some j ∧ (μ.via ρ j q) = μ (ρ j 0).1 q := by
    intro j e q he hw hq
    obtain ⟨h1, h2⟩ := hj2 j e he hw
    obtain ⟨_, _, h3, _⟩ := hj1 _ _ h1
    obtain ⟨ec, k1, k2, k3, _⟩ := hv.rows j e he q hq
    have e1 := h3 q
    rw [e1] at k1 k2
    exact ⟨ec, k1, (k3 hw).1, k2, h1, Mu.via_id μ e1⟩
  have hold : ∀ {b e q}, look H b = some e → q < e.m → js.lookup b = none → Lv μ b q e → w'.heap[(μ b q).g]? = w.heap[(μ b q).g]? := by
    intro b e q he hq hn hlv
    refine h.frame _ (hH.lt he hq hlv) fun j ej qj hj hwj hqj hmj heq => ?_
    obtain ⟨ec, k1, k2, k3, k4, k5⟩ := himg hj hwj hqj
    rw [k5] at heq hmj
    refine hH.inj _ ec qj b e q k1 k2 k3 hmj he hq (.inl fun hb => ?_) hlv heq
    rw [hb, hn] at k4
    cases k4
  have hmap : ∀ {b j}, js.lookup b = some j → ∀ q, ν' j q = μ b q := by
    intro b j hb q
    obtain ⟨h1, h2, h3, _⟩ := hj1 b j hb
    rw [h.mu j h2]
    exact Mu.via_id μ (h3 q)
  have hinH : ∀ {b j e0 q}, js.lookup b = some j → look Hs' j = some e0 → q < e0.m → ∃ ec, look H b = some ec ∧ ec.w = true ∧ q < ec.m ∧ e0.w = true := by
    intro b j e0 q hb he hq
    obtain ⟨h1, h2, h3, e, h4, h5, h6⟩ := hj1 b j hb
    obtain ⟨g1, g2⟩ := h6 e0 he
    obtain ⟨ec, k1, k2, k3, k4, k5⟩ := himg h4 h5 (q := q) (by omega)
    have : (ρ j 0).1 = b := by rw [h3 0]
    rw [this] at k1
    exact ⟨ec, k1, k2, k3, g2⟩
  refine ⟨μ', fun x v hx => by rw [hlen]; exact renV_ok hren hx, ?_⟩
  have hfresh : ∀ {k e0 q}, look Hs' (Hs.length + k) = some e0 → e0.w = true → q < e0.m → (ν' (Hs.length + k) q).m ≠ some 0 → w.heap.size ≤ (ν' (Hs.length + k) q).g ∨ ∃ b ec q0, look H b = some ec ∧ ec.w = true ∧ q0 < ec.m ∧ (μ b q0).m ≠ some 0 ∧ (∃ j, js.lookup b = some j) ∧ (μ b q0).g = (ν' (Hs.length + k) q).g := by
    intro k e0 q he hw hq hm
    rcases h.fresh _ e0 q he hw hq hm with hf | ⟨b0, eb, q0, f1, f2, f3, f5, f4⟩
    · exact .inl hf
    · obtain ⟨ec, k1, k2, k3, k4, k5⟩ := himg f1 f2 f3
      exact .inr ⟨_, ec, q0, k1, k2, k3, by rw [← k5]; exact f5, ⟨b0, k4⟩, by rw [← k5]; exact f4⟩
  have lvR : ∀ {τ : Ren} {b j q : Nat} {x : Ent}, μ' b q = ν' j q → Lv μ' b q (x.ren τ) → Lv ν' j q x := by
    intro τ b j q x he hl
    unfold Lv at hl ⊢
    rwa [Ent.ren_w, Ent.ren_row, Row.ren_n, he] at hl
  refine ⟨h.os, h.tape, h.output, h.size, fun k hk hn => h.frame k hk fun j e q hj hw hq hm heq => ?_, hsame, by rw [hlen]; omega, ⟨?_, ?_, ?_⟩, ?_⟩
  · obtain ⟨ec, k1, k2, k3, k4, k5⟩ := himg hj hw hq
    exact hn _ ec q k1 k2 k3 (by rw [← k5]; exact hm) (by rw [← k5]; exact heq)
  · intro b e hb q hq
    rw [hlen]
    rcases hlook hb with ⟨h1, h2, h3⟩ | ⟨j, e0, h1, h2, h3, rfl⟩ | ⟨k, e0, rfl, h3, rfl⟩
    · rw [hsame b h1]
      exact (hH.rows b e h3 q hq).same hsame (by omega) (fun hn => hold h3 hq h2 (.inr hn))
    · rw [Ent.ren_m] at hq
      rw [hsame b h1, Ent.ren_row]
      have := (h.hrel.rows j e0 h3 q hq).ren hren
      rwa [hmap h2 q] at this
    · rw [Ent.ren_m] at hq
      rw [hnew, Ent.ren_row]
      exact (h.hrel.rows _ e0 h3 q hq).ren hren
  · intro b e hb hw q hq
    rcases hlook hb with ⟨h1, h2, h3⟩ | ⟨j, e0, h1, h2, h3, rfl⟩ | ⟨k, e0, rfl, h3, rfl⟩
    · rw [hsame b h1]
      obtain ⟨m, o2, o4, o3⟩ := hH.own b e h3 hw q hq
      refine ⟨m, o2, o4, fun h0 => ?_⟩
      rw [hold h3 hq h2 (.inl ⟨hw, by rw [o2]; intro h; cases h; omega⟩)]
      exact o3 h0
    · rw [Ent.ren_m] at hq
      rw [Ent.ren_w] at hw
      rw [hsame b h1, ← hmap h2 q, Ent.ren_row, Row.ren_n]
      exact h.hrel.own j e0 h3 hw q hq
    · rw [Ent.ren_m] at hq
      rw [Ent.ren_w] at hw
      rw [hnew, Ent.ren_row, Row.ren_n]
      exact h.hrel.own _ e0 h3 hw q hq
  · intro b1 e1 q1 b2 e2 q2 hb1 hw1 hq1 hm1 hb2 hq2 hne hlv
    rcases hlook hb1 with ⟨a1, a2, a3⟩ | ⟨j1, x1, a1, a2, a3, rfl⟩ | ⟨k1, x1, rfl, a3, rfl⟩
    · rw [hsame b1 a1] at hm1
      rw [hsame b1 a1]
      rcases hlook hb2 with ⟨c1, c2, c3⟩ | ⟨j2, x2, c1, c2, c3, rfl⟩ | ⟨k2, x2, rfl, c3, rfl⟩
      · rw [hsame b2 c1]; exact hH.inj b1 e1 q1 b2 e2 q2 a3 hw1 hq1 hm1 c3 hq2 hne (by unfold Lv at hlv ⊢; rwa [hsame b2 c1] at hlv)
      · rw [Ent.ren_m] at hq2
        obtain ⟨ec, d1, d2, d3, d4⟩ := hinH c2 c3 hq2
        have hm2 := h.hrel.lv c3 hq2 d4 (lvR (by rw [hsame b2 c1, hmap c2 q2]) hlv)
        rw [hmap c2 q2] at hm2
        rw [hsame b2 c1]; exact hH.inj b1 e1 q1 b2 ec q2 a3 hw1 hq1 hm1 d1 d3 hne (.inl ⟨d2, hm2⟩)
      · rw [Ent.ren_m] at hq2
        have hm2 := h.hrel.lv c3 hq2 (hj3 _ _ c3) (lvR (by rw [hnew]) hlv)
        rw [hnew]
        rcases hfresh c3 (hj3 _ _ c3) hq2 hm2 with hf | ⟨b0, ec, q0, f1, f2, f3, f6, ⟨j0, f4⟩, f5⟩
        · have := hH.lt a3 hq1 (.inl ⟨hw1, hm1⟩); omega
        · rw [← f5]
          refine fun he => hH.inj b0 ec q0 b1 e1 q1 f1 f2 f3 f6 a3 hq1 (.inl fun hb => ?_) (.inl ⟨hw1, hm1⟩) he.symm
          rw [hb, a2] at f4
          cases f4
    · rw [Ent.ren_m] at hq1
      rw [Ent.ren_w] at hw1
      obtain ⟨ec, d1, d2, d3, d4⟩ := hinH a2 a3 hq1
      rw [hsame b1 a1] at hm1
      rcases hlook hb2 with ⟨c1, c2, c3⟩ | ⟨j2, x2, c1, c2, c3, rfl⟩ | ⟨k2, x2, rfl, c3, rfl⟩
      · rw [hsame b1 a1, hsame b2 c1]; exact hH.inj b1 ec q1 b2 e2 q2 d1 d2 d3 hm1 c3 hq2 hne (by unfold Lv at hlv ⊢; rwa [hsame b2 c1] at hlv)
      · rw [Ent.ren_m] at hq2
        obtain ⟨ec2, f1, f2, f3, f4⟩ := hinH c2 c3 hq2
        have hm2 := h.hrel.lv c3 hq2 f4 (lvR (by rw [hsame b2 c1, hmap c2 q2]) hlv)
        rw [hmap c2 q2] at hm2
        rw [hsame b1 a1, hsame b2 c1]; exact hH.inj b1 ec q1 b2 ec2 q2 d1 d2 d3 hm1 f1 f3 hne (.inl ⟨f2, hm2⟩)
      · rw [Ent.ren_m] at hq2
        rw [← hmap a2 q1] at hm1
        rw [hsame b1 a1, hnew, ← hmap a2 q1]
        obtain ⟨_, g2, _⟩ := hj1 b1 j1 a2
        exact h.hrel.inj j1 x1 q1 _ x2 q2 a3 hw1 hq1 hm1 c3 hq2 (.inl (by omega)) (lvR (by rw [hnew]) hlv)
    · rw [Ent.ren_m] at hq1
      rw [Ent.ren_w] at hw1
      rw [hnew] at hm1
      rw [hnew]
      rcases hlook hb2 with ⟨c1, c2, c3⟩ | ⟨j2, x2, c1, c2, c3, rfl⟩ | ⟨k2, x2, rfl, c3, rfl⟩
      · have hlv2 : Lv μ b2 q2 e2 := by unfold Lv at hlv ⊢; rwa [hsame b2 c1] at hlv
        rw [hsame b2 c1]
        rcases hfresh a3 hw1 hq1 hm1 with hf | ⟨b0, ec, q0, f1, f2, f3, f6, ⟨j0, f4⟩, f5⟩
        · have := hH.lt c3 hq2 hlv2; omega
        · rw [← f5]
          refine hH.inj b0 ec q0 b2 e2 q2 f1 f2 f3 f6 c3 hq2 (.inl fun hb => ?_) hlv2
          rw [hb, c2] at f4
          cases f4
      · rw [Ent.ren_m] at hq2
        have hl2 := lvR (b := b2) (j := j2) (q := q2) (by rw [hsame b2 c1, hmap c2 q2]) hlv
        rw [hsame b2 c1, ← hmap c2 q2]
        obtain ⟨_, g2, _⟩ := hj1 b2 j2 c2
        exact h.hrel.inj _ x1 q1 j2 x2 q2 a3 hw1 hq1 hm1 c3 hq2 (.inl (by omega)) hl2
      · rw [Ent.ren_m] at hq2
        have hl2 := lvR (q := q2) (by rw [hnew]) hlv
        rw [hnew]
        exact h.hrel.inj _ x1 q1 _ x2 q2 a3 hw1 hq1 hm1 c3 hq2 (by omega) hl2
  · intro b e q hb hw hq hm
    rcases hlook hb with ⟨h1, h2, h3⟩ | ⟨j, e0, h1, h2, h3, rfl⟩ | ⟨k, e0, rfl, h3, rfl⟩
    · rw [hsame b h1] at hm ⊢; exact .inr ⟨b, e, q, h3, hw, hq, hm, rfl⟩
    · rw [Ent.ren_m] at hq
      obtain ⟨ec, d1, d2, d3, d4⟩ := hinH h2 h3 hq
      rw [hsame b h1] at hm ⊢; exact .inr ⟨b, ec, q, d1, d2, d3, hm, rfl⟩
    · rw [Ent.ren_m] at hq
      rw [Ent.ren_w] at hw
      rw [hnew] at hm ⊢
      rcases hfresh h3 hw hq hm with hf | ⟨b0, ec, q0, f1, f2, f3, f6, _, f5⟩
      · exact .inl hf
      · exact .inr ⟨b0, ec, q0, f1, f2, f3, f6, f5⟩
end Go.Proofs.YtkpojkhedmeneaaE
