/- A part of the proof of a law of the given program: the logic of runs over laid-out memory. No condition of its own. -/
import Derived.Test.YtkpojkhedmeneaaEE7
import Derived.Deep.AppendSrc
import Derived.Deep.Upon
import Derived.Room.Entries
import Derived.Laws.AppendOwn
namespace Go.Proofs.YtkpojkhedmeneaaE
open Go.RowKit
/-! ### elements of a slice, cells of a block -/
def elsAt (n : Nat) (μ : Mu) (z m : Nat) (f : Nat → List DV) (cs : List Value) : Prop :=
  cs.length = m * z ∧ ∀ k, k < m → (f k).length = z ∧ ∀ (j : Nat) d, (f k)[j]? = some d → ∃ v, cs[k * z + j]? = some v ∧ Leaf n μ d v
def part (H : Heap) (z : Nat) : DV → Option (Prop × Nat × (Nat → List DV))
  | .nils => some (True, 0, fun _ => [])
  | .sl b q i len _ => match look H b with
    | some e => some (q < e.m ∧ i + len ≤ (e.row q).n ∧ (e.row q).z = z, len, fun k => (e.row q).at (i + k))
    | none => none
  | _ => none
theorem part_ok {μ : Mu} {H : Heap} {w : World} (hH : HRel μ H w) {z : Nat} {x : DV} {p : Prop} {m : Nat} {f : Nat → List DV} {xv : Value} (hz : 0 < z) (h : part H z x = some (p, m, f)) (hp : p) (hx : VRel H.length μ x xv) :
    ∃ ao c cs, xv = .slice ao m c ∧ m ≤ c ∧ elsAt H.length μ z m f cs ∧ (ao = none → m = 0 ∧ c = 0) ∧ ∀ a, ao = some a → ∀ (j : Nat) u, cs[j]? = some u → w.cell? (a.add j) = some u := by
  unfold part at h
  split at h
  · cases h
    obtain rfl : xv = .slice none 0 0 := hx
    exact ⟨none, 0, [], rfl, Nat.le_refl _, ⟨by simp, fun k hk => by omega⟩, fun _ => ⟨rfl, rfl⟩, fun a h => by cases h⟩
  · rename_i b q i len cap
    split at h
    case h_2 => cases h
    rename_i e he
    cases h
    obtain ⟨h1, h2, h3⟩ := hp
    obtain ⟨hb, hx⟩ := hx
    have hr := hH.rows b e he q h1
    rcases Nat.eq_zero_or_pos m with h0 | h0
    · subst h0
      rcases hx with ⟨_, _, rfl⟩ | ⟨a, c, rfl, k1, k2, k3⟩
      · exact ⟨none, 0, [], rfl, Nat.le_refl _, ⟨by simp, fun k hk => by omega⟩, fun _ => ⟨rfl, rfl⟩, fun a h => by cases h⟩
      · exact ⟨some a, c, [], rfl, k1, ⟨by simp, fun k hk => by omega⟩, fun h => (by cases h), fun a h j u hu => by simp at hu⟩
    · rcases hx with ⟨g0, _, rfl⟩ | ⟨a, c, rfl, k1, k2, k3⟩
      · omega
      · rcases k3 with k3 | ⟨rfl, k4⟩
        · omega
        · obtain ⟨cs, t, fz, g1, g2⟩ := hr.cells (by omega)
          have hpz := hr.z
          rw [h3] at hpz
          have hcell : ∀ (k : Nat), k < m → ∀ j, j < z → ((e.row q).at (i + k)).length = z ∧ ∃ d v, ((e.row q).at (i + k))[j]? = some d ∧ cs[(μ b q).o + i * z + (k * z + j)]? = some v ∧ Leaf H.length μ d v := by
            intro k hk j hj
            obtain ⟨l1, l2⟩ := g2 (i + k) (by omega)
            rw [h3] at l1
            refine ⟨l1, ((e.row q).at (i + k))[j]'(by omega), ?_⟩
            obtain ⟨v, v1, v2⟩ := l2 j _ (List.getElem?_eq_getElem (by omega))
            refine ⟨v, List.getElem?_eq_getElem (by omega), ?_, v2⟩
            rw [← v1, hpz, Nat.add_mul]
            congr 1; omega
          have hsz : (μ b q).o + i * z + m * z ≤ cs.size := by
            obtain ⟨_, d, v, _, v1, _⟩ := hcell (m - 1) (by omega) (z - 1) (by omega)
            have := (Array.getElem?_eq_some_iff.1 v1).1
            have e1 : (m - 1) * z + z = m * z := by
              rw [← Nat.succ_mul]; congr 1; omega
            omega
          refine ⟨_, c, (cs.toList.drop ((μ b q).o + i * z)).take (m * z), rfl, k1, ⟨by simp; omega, fun k hk => ?_⟩, (fun h => by cases h), fun a ha j u hu => ?_⟩
          · refine ⟨(hcell k hk 0 hz).1, fun j d hd => ?_⟩
            have hj : j < z := by
              have h8 : j < ((e.row q).at (i + k)).length := (List.getElem?_eq_some_iff.1 hd).1
              have h9 := (hcell k hk 0 hz).1
              omega
            obtain ⟨_, d', v, v0, v1, v2⟩ := hcell k hk j hj
            rw [hd] at v0
            cases v0
            have hlt : k * z + j < m * z := by
              have : k * z + z ≤ m * z := by rw [← Nat.succ_mul]; exact Nat.mul_le_mul_right z hk
              omega
            refine ⟨v, ?_, v2⟩
            rw [List.getElem?_take, if_pos hlt, List.getElem?_drop, ← v1]
            simp
          · cases ha
            have hjl : j < m * z := by have := (List.getElem?_eq_some_iff.1 hu).1; simp at this; omega
            rw [List.getElem?_take, if_pos hjl, List.getElem?_drop] at hu
            have : (Mu.loc μ b q i 0).add j = ⟨(μ b q).g, (μ b q).o + i * z + j, none⟩ := by
              simp [Mu.loc, hpz, Addr.add_lit]
            rw [this, cell_of_row w _ _ cs t fz g1]
            simpa using hu
  · cases h
/-! ### a block more, in the room of one given up, or a new one, or none at all -/
theorem HRel.add {μ : Mu} {K : Heap} {w w' : World} (hK : HRel μ K w) {row : Row} {s : Spot}
    (other : ∀ b e q, look K b = some e → q < e.m → Lv μ b q e → w'.heap[(μ b q).g]? = w.heap[(μ b q).g]?)
    (apart : s.m ≠ some 0 → ∀ b e q, look K b = some e → q < e.m → Lv μ b q e → (μ b q).g ≠ s.g)
    (hr : RowOk (K.length + 1) (μ.ext K.length s) row s w')
    (hown : ∃ m, s.m = some m ∧ (0 < row.n → 0 < m) ∧ (0 < m → ∃ cs t, w'.heap[s.g]? = some (.cells cs t (0, 0)) ∧ s.o + m * s.z ≤ cs.size)) : HRel (μ.ext K.length s) (K ++ [some (.one true row)]) w' := by
  have hlen : (K ++ [some (Ent.one true row)]).length = K.length + 1 := by simp
  have hsame := μ.ext_same K.length s
  have f : ∀ {b e}, look (K ++ [some (Ent.one true row)]) b = some e → (look K b = some e ∧ b < K.length) ∨ (b = K.length ∧ e = .one true row) := by
    intro b e h
    rw [look_append] at h
    split at h
    · exact .inl ⟨h, ‹_›⟩
    · rw [look_one] at h
      split at h
      · exact .inr ⟨by omega, (Option.some.inj h).symm⟩
      · cases h
  have lvn : ∀ {q}, Lv (μ.ext K.length s) K.length q (.one true row) → s.m ≠ some 0 := by
    intro q hl
    rcases hl with hl | hl
    · have := hl.2; rwa [Mu.ext_at] at this
    · obtain ⟨m, h1, h2, _⟩ := hown
      have := h2 hl
      rw [h1]; intro h; cases h; omega
  refine ⟨?_, ?_, ?_⟩
  · intro b e h q hq
    rw [hlen]
    rcases f h with ⟨h1, h2⟩ | ⟨rfl, rfl⟩
    · rw [hsame b h2]
      exact (hK.rows b e h1 q hq).same hsame (by omega) (fun hn => other b e q h1 hq (.inr hn))
    · rw [Mu.ext_at]; exact hr
  · intro b e h hw q hq
    rcases f h with ⟨h1, h2⟩ | ⟨rfl, rfl⟩
    · rw [hsame b h2]
      obtain ⟨m0, k2, k4, k3⟩ := hK.own b e h1 hw q hq
      refine ⟨m0, k2, k4, fun h0 => ?_⟩
      rw [other b e q h1 hq (.inl ⟨hw, by rw [k2]; intro h; cases h; omega⟩)]
      exact k3 h0
    · rw [Mu.ext_at]; exact hown
  · intro b1 e1 q1 b2 e2 q2 h1 hw1 hq1 hm1 h2 hq2 hne hlv
    rcases f h1 with ⟨k1, l1⟩ | ⟨rfl, rfl⟩
    · rw [hsame b1 l1] at hm1
      rcases f h2 with ⟨k2, l2⟩ | ⟨rfl, rfl⟩
      · rw [hsame b1 l1, hsame b2 l2]
        refine hK.inj b1 e1 q1 b2 e2 q2 k1 hw1 hq1 hm1 k2 hq2 hne ?_
        unfold Lv at hlv ⊢
        rwa [hsame b2 l2] at hlv
      · rw [hsame b1 l1, Mu.ext_at]
        exact apart (lvn hlv) b1 e1 q1 k1 hq1 (.inl ⟨hw1, hm1⟩)
    · rw [Mu.ext_at] at hm1
      rcases f h2 with ⟨k2, l2⟩ | ⟨rfl, rfl⟩
      · rw [hsame b2 l2, Mu.ext_at]
        exact fun he => apart hm1 b2 e2 q2 k2 hq2 (by unfold Lv at hlv ⊢; rwa [hsame b2 l2] at hlv) he.symm
      · simp only [Ent.m] at hq1 hq2
        omega
theorem Step.add {μ : Mu} {H K : Heap} {w w' : World} (hH : HRel μ H w) (hK : HRel μ K w) (hl : K.length = H.length) (sub : ∀ b e, look K b = some e → look H b = some e) {row : Row} {s : Spot}
    (os : w'.os = w.os) (tape : w'.tape = w.tape) (output : w'.output = w.output) (size : w.heap.size ≤ w'.heap.size)
    (other : ∀ k, k < w.heap.size → (k ≠ s.g ∨ s.m = some 0) → w'.heap[k]? = w.heap[k]?)
    (come : s.m = some 0 ∨ w.heap.size ≤ s.g ∨ ∃ b e q, look H b = some e ∧ e.w = true ∧ q < e.m ∧ (μ b q).m ≠ some 0 ∧ (μ b q).g = s.g ∧ look K b = none)
    (hr : RowOk (H.length + 1) (μ.ext H.length s) row s w')
    (hown : ∃ m, s.m = some m ∧ (0 < row.n → 0 < m) ∧ (0 < m → ∃ cs t, w'.heap[s.g]? = some (.cells cs t (0, 0)) ∧ s.o + m * s.z ≤ cs.size)) : Step μ H w (μ.ext H.length s) (K ++ [some (.one true row)]) w' := by
  have hsame := μ.ext_same H.length s
  have apart : s.m ≠ some 0 → ∀ b e q, look K b = some e → q < e.m → Lv μ b q e → (μ b q).g ≠ s.g := by
    intro hm b e q hb hq hlv
    rcases come with c | c | ⟨b1, e1, q1, c1, c2, c3, c4, c5, c6⟩
    · exact absurd c hm
    · have := hK.lt hb hq hlv; omega
    · rw [← c5]
      refine fun he => hH.inj b1 e1 q1 b e q c1 c2 c3 c4 (sub b e hb) hq (.inl fun h => ?_) hlv he.symm
      rw [h, hb] at c6; cases c6
  have hrel : HRel (μ.ext H.length s) (K ++ [some (.one true row)]) w' := by
    rw [← hl] at hr ⊢
    refine hK.add (fun b e q hb hq hlv => other _ (hK.lt hb hq hlv) ?_) apart hr hown
    by_cases hm : s.m = some 0
    · exact .inr hm
    · exact .inl (apart hm b e q hb hq hlv)
  refine ⟨os, tape, output, size, fun k hk hn => other k hk ?_, hsame, by simp [hl], hrel, fun b e q hb hw hq hm => ?_⟩
  · rcases come with c | c | ⟨b1, e1, q1, c1, c2, c3, c4, c5, c6⟩
    · exact .inr c
    · exact .inl (by omega)
    · exact .inl fun h => hn b1 e1 q1 c1 c2 c3 c4 (by rw [c5, h])
  · rw [look_append] at hb
    split at hb
    · rename_i hlt
      rw [hsame b (by omega)] at hm ⊢
      exact .inr ⟨b, e, q, sub b e hb, hw, hq, hm, rfl⟩
    · rw [look_one] at hb
      split at hb
      · have hbl : b = H.length := by omega
        subst hbl
        rw [Mu.ext_at] at hm ⊢
        rcases come with c | c | ⟨b1, e1, q1, c1, c2, c3, c4, c5, c6⟩
        · exact absurd c hm
        · exact .inl c
        · exact .inr ⟨b1, e1, q1, c1, c2, c3, c4, c5⟩
      · cases hb
def joined (m : Nat) (f g : Nat → List DV) (k : Nat) : List DV := if k < m then f k else g (k - m)
theorem elsAt.join {n : Nat} {μ : Mu} {z m m' : Nat} {f g : Nat → List DV} {cs ds : List Value} (h : elsAt n μ z m f cs) (k : elsAt n μ z m' g ds) : elsAt n μ z (m + m') (joined m f g) (cs ++ ds) := by
  obtain ⟨h1, h2⟩ := h
  obtain ⟨k1, k2⟩ := k
  refine ⟨by rw [List.length_append, h1, k1, Nat.add_mul], fun i hi => ?_⟩
  unfold joined
  split
  · rename_i him
    obtain ⟨a1, a2⟩ := h2 i him
    refine ⟨a1, fun j d hd => ?_⟩
    obtain ⟨v, v1, v2⟩ := a2 j d hd
    exact ⟨v, by rw [List.getElem?_append_left (List.getElem?_eq_some_iff.1 v1).1]; exact v1, v2⟩
  · rename_i him
    obtain ⟨a1, a2⟩ := k2 (i - m) (by omega)
    refine ⟨a1, fun j d hd => ?_⟩
    obtain ⟨v, v1, v2⟩ := a2 j d hd
    have e1 : i * z = m * z + (i - m) * z := by rw [← Nat.add_mul]; congr 1; omega
    refine ⟨v, ?_, v2⟩
    rw [List.getElem?_append_right (by rw [h1]; omega), h1, ← v1]
    congr 1; omega
theorem elsAt.mono {n n' : Nat} {μ μ' : Mu} (hs : Same n μ μ') (hn : n ≤ n') {z m : Nat} {f : Nat → List DV} {cs : List Value} (h : elsAt n μ z m f cs) : elsAt n' μ' z m f cs :=
  ⟨h.1, fun k hk => ⟨(h.2 k hk).1, fun j d hd => by obtain ⟨v, v1, v2⟩ := (h.2 k hk).2 j d hd; exact ⟨v, v1, v2.same hs hn⟩⟩⟩
theorem elsAt.row {n : Nat} {μ : Mu} {z m : Nat} {f : Nat → List DV} {L : List Value} (h : elsAt n μ z m f L) {s : Spot} (hz : s.z = z) {w : World} (hc : 0 < m → ∃ cs t fz, w.heap[s.g]? = some (.cells cs t fz) ∧ ∀ (j : Nat) u, L[j]? = some u → cs[s.o + j]? = some u) :
    RowOk n μ (.arr z m f) s w := by
  refine ⟨hz, fun h0 => ?_⟩
  obtain ⟨cs, t, fz, g1, g2⟩ := hc h0
  refine ⟨cs, t, fz, g1, fun i hi => ?_⟩
  obtain ⟨a1, a2⟩ := h.2 i hi
  refine ⟨a1, fun j d hd => ?_⟩
  obtain ⟨v, v1, v2⟩ := a2 j d hd
  exact ⟨v, by have := g2 _ _ v1; rw [hz, Nat.add_assoc]; exact this, v2⟩
theorem elsAt.one {n : Nat} {μ : Mu} {z m : Nat} {f : Nat → List DV} {L : List Value} (hz : 0 < z) (h : elsAt n μ z m f L) (hl : ∀ k, k < m → (f k).all DV.leaf = true) : ∀ u ∈ L, u.oneCell' = true := by
  intro u hu
  obtain ⟨j, hj, rfl⟩ := List.mem_iff_getElem.1 hu
  have hm : j < m * z := by rw [← h.1]; exact hj
  have hk : j / z < m := by rw [Nat.div_lt_iff_lt_mul hz]; exact hm
  obtain ⟨a1, a2⟩ := h.2 (j / z) hk
  have hjz : j % z < (f (j / z)).length := by rw [a1]; exact Nat.mod_lt _ hz
  obtain ⟨v, v1, v2⟩ := a2 (j % z) _ (List.getElem?_eq_getElem hjz)
  have e1 : j / z * z + j % z = j := by rw [Nat.mul_comm]; exact Nat.div_add_mod j z
  rw [e1, List.getElem?_eq_getElem hj] at v1
  cases v1
  have := hl (j / z) hk
  rw [List.all_eq_true] at this
  exact (v2.oneCell (this _ (List.getElem_mem hjz))).1
def srcP (T : Tab) (H : Heap) (z : Nat) (tx : TypeId) : DV → Option (Prop × Nat × (Nat → List DV))
  | .str s => match T tx with
    | some ⟨_, _, _, .str⟩ => some (z = 1, s.size, fun k => [.int .u8 ((s.data.toList.getD k 0).toNat)])
    | _ => none
  | y => match T tx with
    | some ⟨_, _, _, .slice _⟩ => part H z y
    | _ => none
theorem srcP_ok {P : Program} {T : Tab} (hT : TOk P T) {μ : Mu} {H : Heap} {w : World} (hH : HRel μ H w) {z : Nat} {tx : TypeId} {y : DV} {p : Prop} {m : Nat} {g : Nat → List DV} {yv : Value} (hz : 0 < z) (h : srcP T H z tx y = some (p, m, g)) (hp : p)
    (hlf : ∀ k, k < m → (g k).all DV.leaf = true) (hy : VRel H.length μ y yv) : ∃ news, Src P z tx yv m news w ∧ elsAt H.length μ z m g news := by
  unfold srcP at h
  split at h
  · rename_i s
    split at h
    case h_2 => cases h
    rename_i hti
    cases h
    subst hp
    have hk := (hT _ _ hti).und
    simp only [TK.ok] at hk
    obtain rfl : yv = .string s := hy
    refine ⟨byteCells s, Src.ofString w hk s, by rw [byteCells_length, Nat.mul_one], fun k hk' => ⟨rfl, fun j d hd => ?_⟩⟩
    have hs : s.data.toList.length = s.size := by rw [Array.length_toList]; rfl
    cases j with
    | succ j => simp at hd
    | zero =>
      simp only [List.getElem?_cons_zero, Option.some.injEq] at hd
      subst hd
      refine ⟨.int .u8 (s.data.toList.getD k 0).toNat, ?_, rfl⟩
      unfold byteCells
      rw [List.getElem?_map, Nat.mul_one, Nat.add_zero, List.getD_eq_getElem?_getD, List.getElem?_eq_getElem (by omega)]
      rfl
  · rename_i y' hy'
    split at h
    case h_2 => cases h
    rename_i e' hti
    have hk := (hT _ _ hti).und
    simp only [TK.ok] at hk
    obtain ⟨ao, c, cs, rfl, h1, h2, h3, h4⟩ := part_ok hH hz h hp hy
    cases ao with
    | none =>
      obtain ⟨rfl, rfl⟩ := h3 rfl
      have : cs = [] := List.eq_nil_of_length_eq_zero (by rw [h2.1]; omega)
      subst this
      exact ⟨[], Src.ofNil w hk 0, h2⟩
    | some a => exact ⟨cs, Src.ofSlice w hk a m c cs h2.1 (h4 a rfl) (h2.one hz hlf), h2⟩
def ownB (H : Heap) : DV → Prop
  | .sl b _ _ _ _ => match look H b with
    | some e => e.w = true
    | none => False
  | _ => True
def killX (H : Heap) : DV → Heap
  | .sl b _ _ _ _ => H.set b none
  | _ => H
def capX : DV → Nat
  | .sl _ _ _ _ cap => cap
  | _ => 0
theorem capX_le {n : Nat} {μ : Mu} {x : DV} {ao : Option Addr} {m c : Nat} (h : VRel n μ x (.slice ao m c)) : capX x ≤ c := by
  cases x with
  | sl b q i len cap =>
    rcases h.2 with ⟨h1, h2, h3⟩ | ⟨a, c', h1, h2, h3, h4⟩
    · simp only [capX]; omega
    · cases h1; exact h3
  | _ => exact Nat.zero_le _
def capJ (x : DV) (k : Nat) : Nat := max k (capX x)
theorem capJ_nils (k : Nat) : capJ .nils k = k := by simp [capJ, capX]
theorem capJ_zero (b q i l k : Nat) : capJ (.sl b q i l 0) k = k := by simp [capJ, capX]
theorem le_capJ (x : DV) (k : Nat) : (k ≤ capJ x k) = True := by simp only [eq_iff_iff, iff_true]; exact Nat.le_max_left _ _
def dAppend (T : Tab) (H : Heap) (ts : List TypeId) (xs : List DV) : Option (Prop × DV × Heap) :=
  match ts, xs with
  | [t, tx], [x, y] => match T t with
    | some ⟨_, _, _, .slice e⟩ => match T e with
      | some ti => match part H ti.size x, srcP T H ti.size tx y with
        | some (p, m, f), some (p', m', g) => some (0 < ti.size ∧ p ∧ p' ∧ ownB H x ∧ (∀ k, k < m' → (g k).all DV.leaf = true) ∧ (m + m') * ti.bytes ≤ 140737488355328 ∧ m + m' ≤ 4611686018427387904,
            .sl H.length 0 0 (m + m') (capJ x (m + m')), killX H x ++ [some (.one true (.arr ti.size (m + m') (joined m f g)))])
        | _, _ => none
      | none => none
    | _ => none
  | _, _ => none
theorem killX_ok {μ : Mu} {H : Heap} {w : World} (hH : HRel μ H w) (x : DV) : HRel μ (killX H x) w ∧ (killX H x).length = H.length ∧ ∀ b e, look (killX H x) b = some e → look H b = some e := by
  unfold killX
  split
  · rename_i b q i l c
    refine ⟨hH.kill b, by simp, fun b2 e h => ?_⟩
    by_cases hb : b < H.length
    · rw [look_set _ hb] at h; split at h; (cases h); exact h
    · rwa [List.set_eq_of_length_le (by omega)] at h
  · exact ⟨hH, rfl, fun _ _ h => h⟩
theorem setCells_wrote {P : Program} {w : World} {g off : Nat} {t : TypeId} {cs : Array Value} {news : List Value} (hg : w.heap[g]? = some (.cells cs t (0, 0))) (hl : off + news.length ≤ cs.size) (h1 : ∀ u ∈ news, u.oneCell' = true) :
    (∀ j, j < news.length → (w.cell? ⟨g, off + j, none⟩).isSome = true) ∧ (∀ j, j < news.length → w.frozen? ⟨g, off + j, none⟩ = false) ∧ ∃ cs', Wrote w (w.setCells g off news) g t cs cs' ∧ overlay cs off news cs' := by
  have hc : ∀ j, j < news.length → (w.cell? ⟨g, off + j, none⟩).isSome = true := by
    intro j hj
    rw [cell_of_row w g _ cs t (0, 0) hg, Array.getElem?_eq_getElem (by omega)]
    rfl
  have hf : ∀ j, j < news.length → w.frozen? ⟨g, off + j, none⟩ = false := by
    intro j hj
    simp [World.frozen?, hg]
  refine ⟨hc, hf, ?_⟩
  obtain ⟨w', cs', h2, h3, h4⟩ := run_storeCells_ok (P := P) (g := g) (off := off) news 0 w cs hg (by omega) h1
  have h5 := run_storeCells_cells (P := P) g off news 0 w (by simpa using hc) (by simpa using hf) h1
  simp only [Nat.add_zero] at h5
  rw [h5] at h2
  cases h2
  exact ⟨cs', h3, by simpa using h4⟩
theorem dAppend_ok {P : Program} {T : Tab} (hT : TOk P T) {μ : Mu} {H H' : Heap} {w : World} (hH : HRel μ H w) {ts : List TypeId} {ty : TypeId} {xs : List DV} {vs : Array Value} {q : Prop} {v : DV} (h : dAppend T H ts xs = some (q, v, H')) (hq : q) (ha : L2 (VRel H.length μ) xs vs.toList) :
    ∃ v' w' μ', (Builtin.append_ ts.toArray ty vs).run P w = .ok v' w' ∧ VRel H'.length μ' v v' ∧ Step μ H w μ' H' w' := by
  unfold dAppend at h
  split at h
  case h_2 => cases h
  rename_i t tx x y
  split at h
  case h_2 => cases h
  rename_i a1 a2 a3 e hti
  split at h
  case h_2 => cases h
  rename_i ti hte
  split at h
  case h_2 => cases h
  rename_i p m f p' m' g hpx hpy
  cases h
  obtain ⟨hz, hp, hp', hown, hlf, hby, hbig⟩ := hq
  have hu : P.underlying t = some (.slice e) := (hT _ _ hti).und
  obtain ⟨info, zv, hi, hsize, hbytes, hzero, hzl⟩ := (hT _ _ hte).info
  obtain ⟨xv, yv, rfl, hx, hy⟩ : ∃ xv yv, vs = #[xv, yv] ∧ VRel H.length μ x xv ∧ VRel H.length μ y yv := by
    obtain ⟨l⟩ := vs
    match l, ha with
    | [xv, yv], ha => exact ⟨xv, yv, rfl, ha.1, ha.2.1⟩
  obtain ⟨ao, c, olds, rfl, hmc, hels, hnil, hread⟩ := part_ok hH hz hpx hp hx
  have hcap : capX x ≤ c := capX_le hx
  obtain ⟨news, hsrc, hnews⟩ := srcP_ok hT hH hz hpy hp' hlf hy
  rw [← hsize] at hsrc
  obtain ⟨hKr, hKl, hKs⟩ := killX_ok hH x
  have hone := hnews.one hz hlf
  have hzl' : zv.cells.size = ti.size := by
    have := (hzl 0 μ).length
    rw [(hT _ _ hte).len] at this
    simpa using this.symm
  have homl : ∀ {k : Nat}, k = H.length + 1 → (killX H x ++ [some (Ent.one true (.arr ti.size (m + m') (joined m f g)))]).length = k := by intro k hk; simp [hKl, hk]
  have hnl := hnews.1
  have hlt : ∀ {s : Spot}, H.length < (killX H x ++ [some (Ent.one true (.arr ti.size (m + m') (joined m f g)))]).length := fun {s} => by rw [homl rfl]; omega
  by_cases hgrow : c < m + m'
  · -- a new row
    have hfit : Builtin.nextslicecap (m + m') c * info.bytes ≤ 281474976710656 := by
      have := Go.Room.nextslicecap_le' hgrow
      rw [hbytes]
      calc Builtin.nextslicecap (m + m') c * ti.bytes ≤ 2 * (m + m') * ti.bytes := Nat.mul_le_mul_right _ this
        _ ≤ 281474976710656 := by rw [Nat.mul_assoc]; omega
    have hold : (Builtin.firstCells info.size m (.slice ao m c)).run P w.drew = .ok olds.toArray w.drew := by
      cases ao with
      | none =>
        obtain ⟨rfl, rfl⟩ := hnil rfl
        have : olds = [] := List.eq_nil_of_length_eq_zero (by rw [hels.1]; omega)
        subst this
        exact run_firstCells_none w.drew info.size 0 0 0
      | some a => exact run_firstCells_some w.drew info.size m a m c olds (by rw [hsize]; exact hels.1) (by simpa using hread a rfl)
    have hrun := run_append_grow_src w t tx ty e info zv hu hi hzero ao m c olds hold yv m' news hsrc hgrow (by omega) hfit
    have hge := grownCap_ge w (m + m') c e
    generalize grownCap w (m + m') c e = nc at hrun hge
    generalize hcs : (olds ++ news).toArray ++ Builtin.zeroCells zv.cells (nc - (m + m')) = ncs at hrun
    have hsz : nc * ti.size ≤ ncs.size := by
      rw [← hcs, Array.size_append, List.size_toArray, List.length_append, hels.1, hnl]
      rw [size_zeroCells, hzl', ← Nat.add_mul, ← Nat.add_mul]
      exact Nat.mul_le_mul_right _ (by omega)
    have hnew : (w.drew.alloc (.cells ncs e)).heap[w.heap.size]? = some (.cells ncs e (0, 0)) := heap_alloc_new w.drew _
    refine ⟨_, _, μ.ext H.length ⟨w.heap.size, 0, ti.size, some nc⟩, hrun, ?_, ?_⟩
    · refine ⟨by rw [homl rfl]; omega, .inr ⟨_, nc, rfl, hge, (by show max (m + m') (capX x) ≤ nc; omega), .inr ⟨?_, fun m1 hm1 => ?_⟩⟩⟩
      · simp [Mu.loc, Mu.ext_at]
      · rw [Mu.ext_at] at hm1; cases hm1; omega
    · refine Step.add hH hKr hKl hKs rfl rfl rfl (by simp) (fun k hk _ => Below.heap_alloc w.drew _ k hk) (.inr (.inl (Nat.le_refl _))) ?_ ⟨nc, rfl, fun h0 => by simp only [Row.n] at h0; omega, fun _ => ⟨ncs, e, hnew, by simpa using hsz⟩⟩
      refine ((hels.join hnews).mono (μ.ext_same _ _) (by omega)).row rfl fun h0 => ⟨ncs, e, (0, 0), hnew, fun j u hu' => ?_⟩
      have hl := (List.getElem?_eq_some_iff.1 hu').1
      rw [← hcs, Nat.zero_add, Array.getElem?_append, if_pos (by simpa using hl)]
      simpa using hu'
  · by_cases hc0 : c = 0
    · -- nothing at all
      obtain rfl : m = 0 := by omega
      obtain rfl : m' = 0 := by omega
      subst hc0
      have hn0 : news = [] := List.eq_nil_of_length_eq_zero (by rw [hnl]; omega)
      subst hn0
      refine ⟨_, w, μ.ext H.length ⟨0, 0, ti.size, some 0⟩, run_append_nothing w t tx ty e info hu hi ao 0 0 (Nat.le_refl _) yv hsrc, ?_, ?_⟩
      · refine ⟨by rw [homl rfl]; omega, ?_⟩
        cases ao with
        | none => exact .inl ⟨rfl, (by show max (0 + 0) (capX x) = 0; omega), rfl⟩
        | some a => exact .inr ⟨a, 0, rfl, Nat.le_refl _, (by show max (0 + 0) (capX x) ≤ 0; omega), .inl rfl⟩
      · refine Step.add hH hKr hKl hKs rfl rfl rfl (Nat.le_refl _) (fun _ _ _ => rfl) (.inl rfl) ⟨rfl, fun h0 => absurd h0 (by simp [Row.n])⟩ ⟨0, rfl, fun h0 => absurd h0 (by simp [Row.n]), fun h0 => absurd h0 (by omega)⟩
    · -- there is room
      have key : ∃ a b q i cap en m0 cs tt, ao = some a ∧ x = .sl b q i m cap ∧ look H b = some en ∧ en.w = true ∧ q < en.m ∧ a = ⟨(μ b q).g, (μ b q).o + i * ti.size, none⟩ ∧ (μ b q).z = ti.size ∧ (μ b q).m = some m0 ∧ i + c ≤ m0 ∧
          w.heap[(μ b q).g]? = some (.cells cs tt (0, 0)) ∧ (μ b q).o + m0 * ti.size ≤ cs.size ∧ look (killX H x) b = none := by
        unfold part at hpx
        split at hpx
        · cases hpx
          have h1 : Value.slice ao 0 c = .slice none 0 0 := hx
          injection h1 with _ _ h3
          exact absurd h3 hc0
        · rename_i b q i len cap
          split at hpx
          case h_2 => cases hpx
          rename_i en hen
          cases hpx
          obtain ⟨hq1, hq2, hq3⟩ := hp
          obtain ⟨hb, hx⟩ := hx
          have hw : en.w = true := by simpa [ownB, hen] using hown
          rcases hx with ⟨_, _, hv⟩ | ⟨a, c', hv, k1, k2, k3⟩
          · cases hv; omega
          · cases hv
            rcases k3 with k3 | ⟨k3, k4⟩
            · omega
            · have hz' : (μ b q).z = ti.size := by rw [(hH.rows b en hen q hq1).z, hq3]
              obtain ⟨m0, o1, o2, o3⟩ := hH.own b en hen hw q hq1
              have hm0 := k4 m0 o1
              obtain ⟨cs, tt, o4, o5⟩ := o3 (by omega)
              refine ⟨a, b, q, i, cap, en, m0, cs, tt, rfl, rfl, hen, hw, hq1, by rw [k3]; simp [Mu.loc, hz'], hz', o1, hm0, o4, by rw [← hz']; exact o5, ?_⟩
              simp only [killX]
              rw [look_set _ hb, if_pos rfl]
        · cases hpx
      obtain ⟨a, b, q, i, cap, en, m0, cs, tt, rfl, hxe, hen, hw, hq1, rfl, hz', o1, hm0, o4, o5, hkb⟩ := key
      have hm0z : (μ b q).o + i * ti.size + (m + m') * ti.size ≤ cs.size := by
        have : (i + (m + m')) * ti.size ≤ m0 * ti.size := Nat.mul_le_mul_right _ (by omega)
        rw [Nat.add_mul] at this
        omega
      have hoff : (μ b q).o + i * ti.size + m * ti.size + news.length ≤ cs.size := by rw [hnl]; rw [Nat.add_mul] at hm0z; omega
      obtain ⟨w1, w2, cs', w3, w4⟩ := setCells_wrote (P := P) (off := (μ b q).o + i * ti.size + m * ti.size) o4 hoff hone
      have holds : ∀ (j : Nat) u, olds[j]? = some u → cs[(μ b q).o + i * ti.size + j]? = some u := by
        intro j u hu'
        have := hread _ rfl j u hu'
        rw [Addr.add_lit, cell_of_row w _ _ cs tt (0, 0) o4] at this
        exact this
      refine ⟨_, w.setCells (μ b q).g ((μ b q).o + i * ti.size + m * ti.size) news, μ.ext H.length ⟨(μ b q).g, (μ b q).o + i * ti.size, ti.size, some (m0 - i)⟩,
        run_append_room_src w t tx ty e info hu hi _ _ m c yv m' news hsrc (by omega) (by rw [hsize]; exact w1) (by rw [hsize]; exact w2) |>.trans (by rw [hsize]), ?_, ?_⟩
      · refine ⟨by rw [homl rfl]; omega, .inr ⟨_, c, rfl, by omega, (by show max (m + m') (capX _) ≤ c; omega), .inr ⟨?_, fun m1 hm1 => ?_⟩⟩⟩
        · simp [Mu.loc, Mu.ext_at]
        · rw [Mu.ext_at] at hm1; cases hm1; omega
      · refine Step.add hH hKr hKl hKs w3.os w3.tape w3.output (by rw [w3.size]; exact Nat.le_refl _) (fun k hk hk2 => w3.other k ?_) (.inr (.inr ⟨b, en, q, hen, hw, hq1, ?_, rfl, hkb⟩)) ?_ ⟨m0 - i, rfl, fun _ => by omega, fun _ => ⟨cs', tt, w3.at1, ?_⟩⟩
        · rcases hk2 with h | h
          · exact h
          · simp only [Option.some.injEq] at h; omega
        · rw [o1]; intro h; cases h; omega
        · refine ((hels.join hnews).mono (μ.ext_same _ _) (by omega)).row rfl fun h0 => ⟨cs', tt, (0, 0), w3.at1, fun j u hu' => ?_⟩
          show cs'[(μ b q).o + i * ti.size + j]? = _
          rw [w4]
          by_cases hj : j < m * ti.size
          · rw [if_neg (by omega), holds j u (by rwa [List.getElem?_append_left (by rw [hels.1]; exact hj)] at hu')]
          · rw [List.getElem?_append_right (by rw [hels.1]; omega), hels.1] at hu'
            have hl := (List.getElem?_eq_some_iff.1 hu').1
            rw [if_pos (by omega), ← hu']
            congr 1; omega
        · rw [w3.len]
          have : (μ b q).o + i * ti.size + (m0 - i) * ti.size = (μ b q).o + m0 * ti.size := by
            rw [Nat.add_assoc, ← Nat.add_mul]; congr 2; omega
          show (μ b q).o + i * ti.size + (m0 - i) * ti.size ≤ cs.size
          omega
end Go.Proofs.YtkpojkhedmeneaaE
