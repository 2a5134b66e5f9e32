/- A part of the proof of a law of the given program: the logic of runs over laid-out memory. No condition of its own. -/
import Derived.Test.YtaklcaejeaiagaaEG1
import Derived.Deep.AppendSrc
import Derived.Deep.Upon
import Derived.Room.Entries
import Derived.Laws.AppendOwn
namespace Go.Proofs.YtaklcaejeaiagaaE
open Go.RowKit
/-! ### elements of a slice, cells of a block -/
def elsAt (n : Nat) (μ : Mu) (z m : Nat) (f : Nat → List DV) (cs : List Value) : Prop :=
  cs.length = m * z ∧ ∀ k, k < m → (f k).length = z ∧ ∀ (j : Nat) d, (f k)[j]? = some d → ∃ v, cs[k * z + j]? = some v ∧ Leaf n μ d v
def part (H : Heap) (z : Nat) : DV → Option (Prop × Nat × (Nat → List DV))
  | .nils => some (True, 0, fun _ => [])
  | .sl b q i len _ => match look H b with
    | some e => some (q < e.m ∧ i + len ≤ (e.row q).n ∧ (e.row q).z = z, len, fun k => (e.row q).at (i + k))
    | none => none
  | _ => none
theorem part_ok {μ : Mu} {H : Heap} {w : World} (hH : HRel μ H w) {z : Nat} {x : DV} {p : Prop} {m : Nat} {f : Nat → List DV} {xv : Value} (hz : 0 < z) (h : part H z x = some (p, m, f)) (hp : p) (hx : VRel H.length μ x xv) :
    ∃ ao c cs, xv = .slice ao m c ∧ m ≤ c ∧ elsAt H.length μ z m f cs ∧ (ao = none → m = 0 ∧ c = 0) ∧ ∀ a, ao = some a → ∀ (j : Nat) u, cs[j]? = some u → w.cell? (a.add j) = some u := by
  unfold part at h
  split at h
  · cases h
    obtain rfl : xv = .slice none 0 0 := hx
    exact ⟨none, 0, [], rfl, Nat.le_refl _, ⟨by simp, fun k hk => by omega⟩, fun _ => ⟨rfl, rfl⟩, fun a h => by cases h⟩
  · rename_i b q i len cap
    split at h
    case h_2 => cases h
    rename_i e he
    cases h
    obtain ⟨h1, h2, h3⟩ := hp
    obtain ⟨hb, hx⟩ := hx
    have hr := hH.rows b e he q h1
    rcases Nat.eq_zero_or_pos m with h0 | h0
    · subst h0
      rcases hx with ⟨_, _, rfl⟩ | ⟨a, c, rfl, k1, k2, k3⟩
      · exact ⟨none, 0, [], rfl, Nat.le_refl _, ⟨by simp, fun k hk => by omega⟩, fun _ => ⟨rfl, rfl⟩, fun a h => by cases h⟩
      · exact ⟨some a, c, [], rfl, k1, ⟨by simp, fun k hk => by omega⟩, fun h => (by cases h), fun a h j u hu => by simp at hu⟩
    · rcases hx with ⟨g0, _, rfl⟩ | ⟨a, c, rfl, k1, k2, k3⟩
      · omega
      · rcases k3 with k3 | ⟨rfl, k4⟩
        · omega
        · obtain ⟨cs, t, fz, g1, g2⟩ := hr.cells (by omega)
          have hpz := hr.z
          rw [h3] at hpz
          have hcell : ∀ (k : Nat), k < m → ∀ j, j < z → ((e.row q).at (i + k)).length = z ∧ ∃ d v, ((e.row q).at (i + k))[j]? = some d ∧ cs[(μ b q).o + i * z + (k * z + j)]? = some v ∧ Leaf H.length μ d v := by
            intro k hk j hj
            obtain ⟨l1, l2⟩ := g2 (i + k) (by omega)
            rw [h3] at l1
            refine ⟨l1, ((e.row q).at (i + k))[j]'(by omega), ?_⟩
            obtain ⟨v, v1, v2⟩ := l2 j _ (List.getElem?_eq_getElem (by omega))
            refine ⟨v, List.getElem?_eq_getElem (by omega), ?_, v2⟩
            rw [← v1, hpz, Nat.add_mul]
            congr 1; omega
          have hsz : (μ b q).o + i * z + m * z ≤ cs.size := by
            obtain ⟨_, d, v, _, v1, _⟩ := hcell (m - 1) (by omega) (z - 1) (by omega)
            have := (Array.getElem?_eq_some_iff.1 v1).1
            have e1 : (m - 1) * z + z = m * z := by
              rw [← Nat.succ_mul]; congr 1; omega
            omega
          refine ⟨_, c, (cs.toList.drop ((μ b q).o + i * z)).take (m * z), rfl, k1, ⟨by simp; omega, fun k hk => ?_⟩, (fun h => by cases h), fun a ha j u hu => ?_⟩
          · refine ⟨(hcell k hk 0 hz).1, fun j d hd => ?_⟩
            have hj : j < z := by
              have h8 : j < ((e.row q).at (i + k)).length := (List.getElem?_eq_some_iff.1 hd).1
              have h9 := (hcell k hk 0 hz).1
              omega
            obtain ⟨_, d', v, v0, v1, v2⟩ := hcell k hk j hj
            rw [hd] at v0
            cases v0
            have hlt : k * z + j < m * z := by
              have : k * z + z ≤ m * z := by rw [← Nat.succ_mul]; exact Nat.mul_le_mul_right z hk
              omega
            refine ⟨v, ?_, v2⟩
            rw [List.getElem?_take, if_pos hlt, List.getElem?_drop, ← v1]
            simp
          · cases ha
            have hjl : j < m * z := by have := (List.getElem?_eq_some_iff.1 hu).1; simp at this; omega
            rw [List.getElem?_take, if_pos hjl, List.getElem?_drop] at hu
            have : (Mu.loc μ b q i 0).add j = ⟨(μ b q).g, (μ b q).o + i * z + j, none⟩ := by
              simp [Mu.loc, hpz, Addr.add_lit]
            rw [this, cell_of_row w _ _ cs t fz g1]
            simpa using hu
  · cases h
/-! ### a block more, in the room of one given up, or a new one, or none at all -/
theorem HRel.add {μ : Mu} {K : Heap} {w w' : World} (hK : HRel μ K w) {row : Row} {s : Spot}
    (other : ∀ b e q, look K b = some e → q < e.m → Lv μ b q e → w'.heap[(μ b q).g]? = w.heap[(μ b q).g]?)
    (apart : s.m ≠ some 0 → ∀ b e q, look K b = some e → q < e.m → Lv μ b q e → (μ b q).g ≠ s.g)
    (hr : RowOk (K.length + 1) (μ.ext K.length s) row s w')
    (hown : ∃ m, s.m = some m ∧ (0 < row.n → 0 < m) ∧ (0 < m → ∃ cs t, w'.heap[s.g]? = some (.cells cs t (0, 0)) ∧ s.o + m * s.z ≤ cs.size)) : HRel (μ.ext K.length s) (K ++ [some (.one true row)]) w' := by
  have hlen : (K ++ [some (Ent.one true row)]).length = K.length + 1 := by simp
  have hsame := μ.ext_same K.length s
  have f : ∀ {b e}, look (K ++ [some (Ent.one true row)]) b = some e → (look K b = some e ∧ b < K.length) ∨ (b = K.length ∧ e = .one true row) := by
    intro b e h
    rw [look_append] at h
    split at h
    · exact .inl ⟨h, ‹_›⟩
    · rw [look_one] at h
      split at h
      · exact .inr ⟨by omega, (Option.some.inj h).symm⟩
      · cases h
  have lvn : ∀ {q}, Lv (μ.ext K.length s) K.length q (.one true row) → s.m ≠ some 0 := by
    intro q hl
    rcases hl with hl | hl
    · have := hl.2; rwa [Mu.ext_at] at this
    · obtain ⟨m, h1, h2, _⟩ := hown
      have := h2 hl
      rw [h1]; intro h; cases h; omega
  refine ⟨?_, ?_, ?_⟩
  · intro b e h q hq
    rw [hlen]
    rcases f h with ⟨h1, h2⟩ | ⟨rfl, rfl⟩
    · rw [hsame b h2]
      exact (hK.rows b e h1 q hq).same hsame (by omega) (fun hn => other b e q h1 hq (.inr hn))
    · rw [Mu.ext_at]; exact hr
  · intro b e h hw q hq
    rcases f h with ⟨h1, h2⟩ | ⟨rfl, rfl⟩
    · rw [hsame b h2]
      obtain ⟨m0, k2, k4, k3⟩ := hK.own b e h1 hw q hq
      refine ⟨m0, k2, k4, fun h0 => ?_⟩
      rw [other b e q h1 hq (.inl ⟨hw, by rw [k2]; intro h; cases h; omega⟩)]
      exact k3 h0
    · rw [Mu.ext_at]; exact hown
  · intro b1 e1 q1 b2 e2 q2 h1 hw1 hq1 hm1 h2 hq2 hne hlv
    rcases f h1 with ⟨k1, l1⟩ | ⟨rfl, rfl⟩
    · rw [hsame b1 l1] at hm1
      rcases f h2 with ⟨k2, l2⟩ | ⟨rfl, rfl⟩
      · rw [hsame b1 l1, hsame b2 l2]
        refine hK.inj b1 e1 q1 b2 e2 q2 k1 hw1 hq1 hm1 k2 hq2 hne ?_
        unfold Lv at hlv ⊢
        rwa [hsame b2 l2] at hlv
      · rw [hsame b1 l1, Mu.ext_at]
        exact apart (lvn hlv) b1 e1 q1 k1 hq1 (.inl ⟨hw1, hm1⟩)
    · rw [Mu.ext_at] at hm1
      rcases f h2 with ⟨k2, l2⟩ | ⟨rfl, rfl⟩
      · rw [hsame b2 l2, Mu.ext_at]
        exact fun he => apart hm1 b2 e2 q2 k2 hq2 (by unfold Lv at hlv ⊢; rwa [hsame b2 l2] at hlv) he.symm
      · simp only [Ent.m] at hq1 hq2
        omega
theorem Step.add {μ : Mu} {H K : Heap} {w w' : World} (hH : HRel μ H w) (hK : HRel μ K w) (hl : K.length = H.length) (sub : ∀ b e, look K b = some e → look H b = some e) {row : Row} {s : Spot}
    (os : w'.os = w.os) (tape : w'.tape = w.tape) (output : w'.output = w.output) (size : w.heap.size ≤ w'.heap.size)
    (other : ∀ k, k < w.heap.size → (k ≠ s.g ∨ s.m = some 0) → w'.heap[k]? = w.heap[k]?)
    (come : s.m = some 0 ∨ w.heap.size ≤ s.g ∨ ∃ b e q, look H b = some e ∧ e.w = true ∧ q < e.m ∧ (μ b q).m ≠ some 0 ∧ (μ b q).g = s.g ∧ look K b = none)
    (hr : RowOk (H.length + 1) (μ.ext H.length s) row s w')
    (hown : ∃ m, s.m = some m ∧ (0 < row.n → 0 < m) ∧ (0 < m → ∃ cs t, w'.heap[s.g]? = some (.cells cs t (0, 0)) ∧ s.o + m * s.z ≤ cs.size)) : Step μ H w (μ.ext H.length s) (K ++ [some (.one true row)]) w' := by
  have hsame := μ.ext_same H.length s
  have apart : s.m ≠ some 0 → ∀ b e q, look K b = some e → q < e.m → Lv μ b q e → (μ b q).g ≠ s.g := by
    intro hm b e q hb hq hlv
    rcases come with c | c | ⟨b1, e1, q1, c1, c2, c3, c4, c5, c6⟩
    · exact absurd c hm
    · have := hK.lt hb hq hlv; omega
    · rw [← c5]
      refine fun he => hH.inj b1 e1 q1 b e q c1 c2 c3 c4 (sub b e hb) hq (.inl fun h => ?_) hlv he.symm
      rw [h, hb] at c6; cases c6
  have hrel : HRel (μ.ext H.length s) (K ++ [some (.one true row)]) w' := by
    rw [← hl] at hr ⊢
    refine hK.add (fun b e q hb hq hlv => other _ (hK.lt hb hq hlv) ?_) apart hr hown
    by_cases hm : s.m = some 0
    · exact .inr hm
    · exact .inl (apart hm b e q hb hq hlv)
  refine ⟨os, tape, output, size, fun k hk hn => other k hk ?_, hsame, by simp [hl], hrel, fun b e q hb hw hq hm => ?_⟩
  · rcases come with c | c | ⟨b1, e1, q1, c1, c2, c3, c4, c5, c6⟩
    · exact .inr c
    · exact .inl (by omega)
    · exact .inl fun h => hn b1 e1 q1 c1 c2 c3 c4 (by rw [c5, h])
  · rw [look_append] at hb
    split at hb
    · rename_i hlt
      rw [hsame b (by omega)] at hm ⊢
      exact .inr ⟨b, e, q, sub b e hb, hw, hq, hm, rfl⟩
    · rw [look_one] at hb
      split at hb
      · have hbl : b = H.length := by omega
        subst hbl
        rw [Mu.ext_at] at hm ⊢
        rcases come with c | c | ⟨b1, e1, q1, c1, c2, c3, c4, c5, c6⟩
        · exact absurd c hm
        · exact .inl c
        · exact .inr ⟨b1, e1, q1, c1, c2, c3, c4, c5⟩
      · cases hb
def joined (m : Nat) (f g : Nat → List DV) (k : Nat) : List DV := if k < m then f k else g (k - m)
theorem elsAt.join {n : Nat} {μ : Mu} {z m m' : Nat} {f g : Nat → List DV} {cs ds : List Value} (h : elsAt n μ z m f cs) (k : elsAt n μ z m' g ds) : elsAt n μ z (m + m') (joined m f g) (cs ++ ds) := by
  obtain ⟨h1, h2⟩ := h
  obtain ⟨k1, k2⟩ := k
  refine ⟨by rw [List.length_append, h1, k1, Nat.add_mul], fun i hi => ?_⟩
  unfold joined
  split
  · rename_i him
    obtain ⟨a1, a2⟩ := h2 i him
    refine ⟨a1, fun j d hd => ?_⟩
    obtain ⟨v, v1, v2⟩ := a2 j d hd
    exact ⟨v, by rw [List.getElem?_append_left (List.getElem?_eq_some_iff.1 v1).1]; exact v1, v2⟩
  · rename_i him
    obtain ⟨a1, a2⟩ := k2 (i - m) (by omega)
    refine ⟨a1, fun j d hd => ?_⟩
    obtain ⟨v, v1, v2⟩ := a2 j d hd
    have e1 : i * z = m * z + (i - m) * z := by rw [← Nat.add_mul]; congr 1; omega
    refine ⟨v, ?_, v2⟩
    rw [List.getElem?_append_right (by rw [h1]; omega), h1, ← v1]
    congr 1; omega
theorem elsAt.mono {n n' : Nat} {μ μ' : Mu} (hs : Same n μ μ') (hn : n ≤ n') {z m : Nat} {f : Nat → List DV} {cs : List Value} (h : elsAt n μ z m f cs) : elsAt n' μ' z m f cs :=
  ⟨h.1, fun k hk => ⟨(h.2 k hk).1, fun j d hd => by obtain ⟨v, v1, v2⟩ := (h.2 k hk).2 j d hd; exact ⟨v, v1, v2.same hs hn⟩⟩⟩
theorem elsAt.row {n : Nat} {μ : Mu} {z m : Nat} {f : Nat → List DV} {L : List Value} (h : elsAt n μ z m f L) {s : Spot} (hz : s.z = z) {w : World} (hc : 0 < m → ∃ cs t fz, w.heap[s.g]? = some (.cells cs t fz) ∧ ∀ (j : Nat) u, L[j]? = some u → cs[s.o + j]? = some u) :
    RowOk n μ (.arr z m f) s w := by
  refine ⟨hz, fun h0 => ?_⟩
  obtain ⟨cs, t, fz, g1, g2⟩ := hc h0
  refine ⟨cs, t, fz, g1, fun i hi => ?_⟩
  obtain ⟨a1, a2⟩ := h.2 i hi
  refine ⟨a1, fun j d hd => ?_⟩
  obtain ⟨v, v1, v2⟩ := a2 j d hd
  exact ⟨v, by have := g2 _ _ v1; rw [hz, Nat.add_assoc]; exact this, v2⟩
theorem elsAt.one {n : Nat} {μ : Mu} {z m : Nat} {f : Nat → List DV} {L : List Value} (hz : 0 < z) (h : elsAt n μ z m f L) (hl : ∀ k, k < m → (f k).all DV.leaf = true) : ∀ u ∈ L, u.oneCell' = true := by
  intro u hu
  obtain ⟨j, hj, rfl⟩ := List.mem_iff_getElem.1 hu
  have hm : j < m * z := by rw [← h.1]; exact hj
  have hk : j / z < m := by rw [Nat.div_lt_iff_lt_mul hz]; exact hm
  obtain ⟨a1, a2⟩ := h.2 (j / z) hk
  have hjz : j % z < (f (j / z)).length := by rw [a1]; exact Nat.mod_lt _ hz
  obtain ⟨v, v1, v2⟩ := a2 (j % z) _ (List.getElem?_eq_getElem hjz)
  have e1 : j / z * z + j % z = j := by rw [Nat.mul_comm]; exact Nat.div_add_mod j z
  rw [e1, List.getElem?_eq_getElem hj] at v1
  cases v1
  have := hl (j / z) hk
  rw [List.all_eq_true] at this
  exact (v2.oneCell (this _ (List.getElem_mem hjz))).1
def srcP (T : Tab) (H : Heap) (z : Nat) (tx : TypeId) : DV → Option (Prop × Nat × (Nat → List DV))
  | .str s => match T tx with
    | some ⟨_, _, _, .str⟩ => some (z = 1, s.size, fun k => [.int .u8 ((s.data.toList.getD k 0).toNat)])
    | _ => none
  | y => match T tx with
    | some ⟨_, _, _, .slice _⟩ => part H z y
    | _ => none
theorem srcP_ok {P : Program} {T : Tab} (hT : TOk P T) {μ : Mu} {H : Heap} {w : World} (hH : HRel μ H w) {z : Nat} {tx : TypeId} {y : DV} {p : Prop} {m : Nat} {g : Nat → List DV} {yv : Value} (hz : 0 < z) (h : srcP T H z tx y = some (p, m, g)) (hp : p)
    (hlf : ∀ k, k < m → (g k).all DV.leaf = true) (hy : VRel H.length μ y yv) : ∃ news, Src P z tx yv m news w ∧ elsAt H.length μ z m g news := by
  unfold srcP at h
  split at h
  · rename_i s
    split at h
    case h_2 => cases h
    rename_i hti
    cases h
    subst hp
    have hk := (hT _ _ hti).und
    simp only [TK.ok] at hk
    obtain rfl : yv = .string s := hy
    refine ⟨byteCells s, Src.ofString w hk s, by rw [byteCells_length, Nat.mul_one], fun k hk' => ⟨rfl, fun j d hd => ?_⟩⟩
    have hs : s.data.toList.length = s.size := by rw [Array.length_toList]; rfl
    cases j with
    | succ j => simp at hd
    | zero =>
      simp only [List.getElem?_cons_zero, Option.some.injEq] at hd
      subst hd
      refine ⟨.int .u8 (s.data.toList.getD k 0).toNat, ?_, rfl⟩
      unfold byteCells
      rw [List.getElem?_map, Nat.mul_one, Nat.add_zero, List.getD_eq_getElem?_getD, List.getElem?_eq_getElem (by omega)]
      rfl
  · rename_i y' hy'
    split at h
    case h_2 => cases h
    rename_i e' hti
    have hk := (hT _ _ hti).und
    simp only [TK.ok] at hk
    obtain ⟨ao, c, cs, rfl, h1, h2, h3, h4⟩ := part_ok hH hz h hp hy
    cases ao with
    | none =>
      obtain ⟨rfl, rfl⟩ := h3 rfl
      have : cs = [] := List.eq_nil_of_length_eq_zero (by rw [h2.1]; omega)
      subst this
      exact ⟨[], Src.ofNil w hk 0, h2⟩
    | some a => exact ⟨cs, Src.ofSlice w hk a m c cs h2.1 (h4 a rfl) (h2.one hz hlf), h2⟩
def ownB (H : Heap) : DV → Prop
  | .sl b _ _ _ _ => match look H b with
    | some e => e.w = true
    | none => False
  | _ => True
def killX (H : Heap) : DV → Heap
  | .sl b _ _ _ _ => H.set b none
  | _ => H
def capX : DV → Nat
  | .sl _ _ _ _ cap => cap
  | _ => 0
theorem capX_le {n : Nat} {μ : Mu} {x : DV} {ao : Option Addr} {m c : Nat} (h : VRel n μ x (.slice ao m c)) : capX x ≤ c := by
  cases x with
  | sl b q i len cap =>
    rcases h.2 with ⟨h1, h2, h3⟩ | ⟨a, c', h1, h2, h3, h4⟩
    · simp only [capX]; omega
    · cases h1; exact h3
  | _ => exact Nat.zero_le _
def capJ (x : DV) (k : Nat) : Nat := max k (capX x)
theorem capJ_nils (k : Nat) : capJ .nils k = k := by simp [capJ, capX]
theorem capJ_zero (b q i l k : Nat) : capJ (.sl b q i l 0) k = k := by simp [capJ, capX]
theorem le_capJ (x : DV) (k : Nat) : (k ≤ capJ x k) = True := by simp only [eq_iff_iff, iff_true]; exact Nat.le_max_left _ _
def dAppend (T : Tab) (H : Heap) (ts : List TypeId) (xs : List DV) : Option (Prop × DV × Heap) :=
  match ts, xs with
  | [t, tx], [x, y] => match T t with
    | some ⟨_, _, _, .slice e⟩ => match T e with
      | some ti => match part H ti.size x, srcP T H ti.size tx y with
        | some (p, m, f), some (p', m', g) => some (0 < ti.size ∧ p ∧ p' ∧ ownB H x ∧ (∀ k, k < m' → (g k).all DV.leaf = true) ∧ (m + m') * ti.bytes ≤ 140737488355328 ∧ m + m' ≤ 4611686018427387904,
            .sl H.length 0 0 (m + m') (capJ x (m + m')), killX H x ++ [some (.one true (.arr ti.size (m + m') (joined m f g)))])
        | _, _ => none
      | none => none
    | _ => none
  | _, _ => none
theorem killX_ok {μ : Mu} {H : Heap} {w : World} (hH : HRel μ H w) (x : DV) : HRel μ (killX H x) w ∧ (killX H x).length = H.length ∧ ∀ b e, look (killX H x) b = some e → look H b = some e := by
  unfold killX
  split
  · rename_i b q i l c
    refine ⟨hH.kill b, by simp, fun b2 e h => ?_⟩
    by_cases hb : b < H.length
    · rw [look_set _ hb] at h; split at h; (cases h); exact h
    · rwa [List.set_eq_of_length_le (by omega)] at h
  · exact ⟨hH, rfl, fun _ _ h => h⟩
theorem setCells_wrote {P : Program} {w : World} {g off : Nat} {t : TypeId} {cs : Array Value} {news : List Value} (hg : w.heap[g]? = some (.cells cs t (0, 0))) (hl : off + news.length ≤ cs.size) (h1 : ∀ u ∈ news, u.oneCell' = true) :
    (∀ j, j < news.length → (w.cell? ⟨g, off + j, none⟩).isSome = true) ∧ (∀ j, j < news.length → w.frozen? ⟨g, off + j, none⟩ = false) ∧ ∃ cs', Wrote w (w.setCells g off news) g t cs cs' ∧ overlay cs off news cs' := by
  have hc : ∀ j, j < news.length → (w.cell? ⟨g, off + j, none⟩).isSome = true := by
    intro j hj
    rw [cell_of_row w g _ cs t (0, 0) hg, Array.getElem?_eq_getElem (by omega)]
    rfl
  have hf : ∀ j, j < news.length → w.frozen? ⟨g, off + j, none⟩ = false := by
    intro j hj
    simp [World.frozen?, hg]
  refine ⟨hc, hf, ?_⟩
  obtain ⟨w', cs', h2, h3, h4⟩ := run_storeCells_ok (P := P) (g := g) (off := off) news 0 w cs hg (by omega) h1
  have h5 := run_storeCells_cells (P := P) g off news 0 w (by simpa using hc) (by simpa using hf) h1
  simp only [Nat.add_zero] at h5
  rw [h5] at h2
  cases h2
  exact ⟨cs', h3, by simpa using h4⟩
theorem dAppend_ok {P : Program} {T : Tab} (hT : TOk P T) {μ : Mu} {H H' : Heap} {w : World} (hH : HRel μ H w) {ts : List TypeId} {ty : TypeId} {xs : List DV} {vs : Array Value} {q : Prop} {v : DV} (h : dAppend T H ts xs = some (q, v, H')) (hq : q) (ha : L2 (VRel H.length μ) xs vs.toList) :
    ∃ v' w' μ', (Builtin.append_ ts.toArray ty vs).run P w = .ok v' w' ∧ VRel H'.length μ' v v' ∧ Step μ H w μ' H' w' := by
  unfold dAppend at h
  split at h
  case h_2 => cases h
  rename_i t tx x y
  split at h
  case h_2 => cases h
  rename_i a1 a2 a3 e hti
  split at h
  case h_2 => cases h
  rename_i ti hte
  split at h
  case h_2 => cases h
  rename_i p m f p' m' g hpx hpy
  cases h
  obtain ⟨hz, hp, hp', hown, hlf, hby, hbig⟩ := hq
  have hu : P.underlying t = some (.slice e) := (hT _ _ hti).und
  obtain ⟨info, zv, hi, hsize, hbytes, hzero, hzl⟩ := (hT _ _ hte).info
  obtain ⟨xv, yv, rfl, hx, hy⟩ : ∃ xv yv, vs = #[xv, yv] ∧ VRel H.length μ x xv ∧ VRel H.length μ y yv := by
    obtain ⟨l⟩ := vs
    match l, ha with
    | [xv, yv], ha => exact ⟨xv, yv, rfl, ha.1, ha.2.1⟩
  obtain ⟨ao, c, olds, rfl, hmc, hels, hnil, hread⟩ := part_ok hH hz hpx hp hx
  have hcap : capX x ≤ c := capX_le hx
  obtain ⟨news, hsrc, hnews⟩ := srcP_ok hT hH hz hpy hp' hlf hy
  rw [← hsize] at hsrc
  obtain ⟨hKr, hKl, hKs⟩ := killX_ok hH x
  have hone := hnews.one hz hlf
  have hzl' : zv.cells.size = ti.size := by
    have := (hzl 0 μ).length
    rw [(hT _ _ hte).len] at this
    simpa using this.symm
  have homl : ∀ {k : Nat}, k = H.length + 1 → (killX H x ++ [some (Ent.one true (.arr ti.size (m + m') (joined m f g)))]).length = k := by intro k hk; simp [hKl, hk]
  have hnl := hnews.1
  have hlt : ∀ {s : Spot}, H.length < (killX H x ++ [some (Ent.one true (.arr ti.size (m + m') (joined m f g)))]).length := fun {s} => by rw [homl rfl]; omega
  by_cases hgrow : c < m + m'
  · -- a new row
    have hfit : Builtin.nextslicecap (m + m') c * info.bytes ≤ 281474976710656 := by
      have := Go.Room.nextslicecap_le' hgrow
      rw [hbytes]
      calc Builtin.nextslicecap (m + m') c * ti.bytes ≤ 2 * (m + m') * ti.bytes := Nat.mul_le_mul_right _ this
        _ ≤ 281474976710656 := by rw [Nat.mul_assoc]; omega
    have hold : (Builtin.firstCells info.size m (.slice ao m c)).run P w.drew = .ok olds.toArray w.drew := by
      cases ao with
      | none =>
        obtain ⟨rfl, rfl⟩ := hnil rfl
        have : olds = [] := List.eq_nil_of_length_eq_zero (by rw [hels.1]; omega)
        subst this
        exact run_firstCells_none w.drew info.size 0 0 0
      | some a => exact run_firstCells_some w.drew info.size m a m c olds (by rw [hsize]; exact hels.1) (by simpa using hread a rfl)
    have hrun := run_append_grow_src w t tx ty e info zv hu hi hzero ao m c olds hold yv m' news hsrc hgrow (by omega) hfit
    have hge := grownCap_ge w (m + m') c e
    generalize grownCap w (m + m') c e = nc at hrun hge
    generalize hcs : (olds ++ news).toArray ++ Builtin.zeroCells zv.cells (nc - (m + m')) = ncs at hrun
    have hsz : nc * ti.size ≤ ncs.size := by
      rw [← hcs, Array.size_append, List.size_toArray, List.length_append, hels.1, hnl]
      rw [size_zeroCells, hzl', ← Nat.add_mul, ← Nat.add_mul]
      exact Nat.mul_le_mul_right _ (by omega)
    have hnew : (w.drew.alloc (.cells ncs e)).heap[w.heap.size]? = some (.cells ncs e (0, 0)) := heap_alloc_new w.drew _
    refine ⟨_, _, μ.ext H.length ⟨w.heap.size, 0, ti.size, some nc⟩, hrun, ?_, ?_⟩
    · refine ⟨by rw [homl rfl]; omega, .inr ⟨_, nc, rfl, hge, (by show max (m + m') (capX x) ≤ nc; omega), .inr ⟨?_, fun m1 hm1 => ?_⟩⟩⟩
      · simp [Mu.loc, Mu.ext_at]
      · rw [Mu.ext_at] at hm1; cases hm1; omega
    · refine Step.add hH hKr hKl hKs rfl rfl rfl (by simp) (fun k hk _ => Below.heap_alloc w.drew _ k hk) (.inr (.inl (Nat.le_refl _))) ?_ ⟨nc, rfl, fun h0 => by simp only [Row.n] at h0; omega, fun _ => ⟨ncs, e, hnew, by simpa using hsz⟩⟩
      refine ((hels.join hnews).mono (μ.ext_same _ _) (by omega)).row rfl fun h0 => ⟨ncs, e, (0, 0), hnew, fun j u hu' => ?_⟩
      have hl := (List.getElem?_eq_some_iff.1 hu').1
      rw [← hcs, Nat.zero_add, Array.getElem?_append, if_pos (by simpa using hl)]
      simpa using hu'
  · by_cases hc0 : c = 0
    · -- nothing at all
      obtain rfl : m = 0 := by omega
      obtain rfl : m' = 0 := by omega
      subst hc0
      have hn0 : news = [] := List.eq_nil_of_length_eq_zero (by rw [hnl]; omega)
      subst hn0
      refine ⟨_, w, μ.ext H.length ⟨0, 0, ti.size, some 0⟩, run_append_nothing w t tx ty e info hu hi ao 0 0 (Nat.le_refl _) yv hsrc, ?_, ?_⟩
      · refine ⟨by rw [homl rfl]; omega, ?_⟩
        cases ao with
        | none => exact .inl ⟨rfl, (by show max (0 + 0) (capX x) = 0; omega), rfl⟩
        | some a => exact .inr ⟨a, 0, rfl, Nat.le_refl _, (by show max (0 + 0) (capX x) ≤ 0; omega), .inl rfl⟩
      · refine Step.add hH hKr hKl hKs rfl rfl rfl (Nat.le_refl _) (fun _ _ _ => rfl) (.inl rfl) ⟨rfl, fun h0 => absurd h0 (by simp [Row.n])⟩ ⟨0, rfl, fun h0 => absurd h0 (by simp [Row.n]), fun h0 => absurd h0 (by omega)⟩
    · -- there is room
      have key : ∃ a b q i cap en m0 cs tt, ao = some a ∧ x = .sl b q i m cap ∧ look H b = some en ∧ en.w = true ∧ q < en.m ∧ a = ⟨(μ b q).g, (μ b q).o + i * ti.size, none⟩ ∧ (μ b q).z = ti.size ∧ (μ b q).m = some m0 ∧ i + c ≤ m0 ∧
          w.heap[(μ b q).g]? = some (.cells cs tt (0, 0)) ∧ (μ b q).o + m0 * ti.size ≤ cs.size ∧ look (killX H x) b = none := by
        unfold part at hpx
        split at hpx
        · cases hpx
          have h1 : Value.slice ao 0 c = .slice none 0 0 := hx
          injection h1 with _ _ h3
          exact absurd h3 hc0
        · rename_i b q i len cap
          split at hpx
          case h_2 => cases hpx
          rename_i en hen
          cases hpx
          obtain ⟨hq1, hq2, hq3⟩ := hp
          obtain ⟨hb, hx⟩ := hx
          have hw : en.w = true := by simpa [ownB, hen] using hown
          rcases hx with ⟨_, _, hv⟩ | ⟨a, c', hv, k1, k2, k3⟩
          · cases hv; omega
          · cases hv
            rcases k3 with k3 | ⟨k3, k4⟩
            · omega
            · have hz' : (μ b q).z = ti.size := by rw [(hH.rows b en hen q hq1).z, hq3]
              obtain ⟨m0, o1, o2, o3⟩ := hH.own b en hen hw q hq1
              have hm0 := k4 m0 o1
              obtain ⟨cs, tt, o4, o5⟩ := o3 (by omega)
              refine ⟨a, b, q, i, cap, en, m0, cs, tt, rfl, rfl, hen, hw, hq1, by rw [k3]; simp [Mu.loc, hz'], hz', o1, hm0, o4, by rw [← hz']; exact o5, ?_⟩
              simp only [killX]
              rw [look_set _ hb, if_pos rfl]
        · cases hpx
      obtain ⟨a, b, q, i, cap, en, m0, cs, tt, rfl, hxe, hen, hw, hq1, rfl, hz', o1, hm0, o4, o5, hkb⟩ := key
      have hm0z : (μ b q).o + i * ti.size + (m + m') * ti.size ≤ cs.size := by
        have : (i + (m + m')) * ti.size ≤ m0 * ti.size := Nat.mul_le_mul_right _ (by omega)
        rw [Nat.add_mul] at this
        omega
      have hoff : (μ b q).o + i * ti.size + m * ti.size + news.length ≤ cs.size := by rw [hnl]; rw [Nat.add_mul] at hm0z; omega
      obtain ⟨w1, w2, cs', w3, w4⟩ := setCells_wrote (P := P) (off := (μ b q).o + i * ti.size + m * ti.size) o4 hoff hone
      have holds : ∀ (j : Nat) u, olds[j]? = some u → cs[(μ b q).o + i * ti.size + j]? = some u := by
        intro j u hu'
        have := hread _ rfl j u hu'
        rw [Addr.add_lit, cell_of_row w _ _ cs tt (0, 0) o4] at this
        exact this
      refine ⟨_, w.setCells (μ b q).g ((μ b q).o + i * ti.size + m * ti.size) news, μ.ext H.length ⟨(μ b q).g, (μ b q).o + i * ti.size, ti.size, some (m0 - i)⟩,
        run_append_room_src w t tx ty e info hu hi _ _ m c yv m' news hsrc (by omega) (by rw [hsize]; exact w1) (by rw [hsize]; exact w2) |>.trans (by rw [hsize]), ?_, ?_⟩
      · refine ⟨by rw [homl rfl]; omega, .inr ⟨_, c, rfl, by omega, (by show max (m + m') (capX _) ≤ c; omega), .inr ⟨?_, fun m1 hm1 => ?_⟩⟩⟩
        · simp [Mu.loc, Mu.ext_at]
        · rw [Mu.ext_at] at hm1; cases hm1; omega
      · refine Step.add hH hKr hKl hKs w3.os w3.tape w3.output (by rw [w3.size]; exact Nat.le_refl _) (fun k hk hk2 => w3.other k ?_) (.inr (.inr ⟨b, en, q, hen, hw, hq1, ?_, rfl, hkb⟩)) ?_ ⟨m0 - i, rfl, fun _ => by omega, fun _ => ⟨cs', tt, w3.at1, ?_⟩⟩
        · rcases hk2 with h | h
          · exact h
          · simp only [Option.some.injEq] at h; omega
        · rw [o1]; intro h; cases h; omega
        · refine ((hels.join hnews).mono (μ.ext_same _ _) (by omega)).row rfl fun h0 => ⟨cs', tt, (0, 0), w3.at1, fun j u hu' => ?_⟩
          show cs'[(μ b q).o + i * ti.size + j]? = _
          rw [w4]
          by_cases hj : j < m * ti.size
          · rw [if_neg (by omega), holds j u (by rwa [List.getElem?_append_left (by rw [hels.1]; exact hj)] at hu')]
          · rw [List.getElem?_append_right (by rw [hels.1]; omega), hels.1] at hu'
            have hl := (List.getElem?_eq_some_iff.1 hu').1
            rw [if_pos (by omega), ← hu']
            congr 1; omega
        · rw [w3.len]
          have : (μ b q).o + i * ti.size + (m0 - i) * ti.size = (μ b q).o + m0 * ti.size := by
            rw [Nat.add_assoc, ← Nat.add_mul]; congr 2; omega
          show (μ b q).o + i * ti.size + (m0 - i) * ti.size ≤ cs.size
          omega
end Go.Proofs.YtaklcaejeaiagaaE
namespace Go.Proofs.YtaklcaejeaiagaaE
open Go.RowKit
def dNilS (T : Tab) (op : BinOp) (t : TypeId) (len : Nat) (y : DV) : Option (Prop × DV) :=
  match T t with
  | some ⟨_, _, _, .slice _⟩ => match y with
    | .nils => match op with
      | .eql => some (0 < len, .bool false)
      | .neq => some (0 < len, .bool true)
      | _ => none
    | _ => none
  | _ => none
def dNilN (T : Tab) (op : BinOp) (t : TypeId) (y : DV) : Option (Prop × DV) :=
  match T t with
  | some ⟨_, _, _, .slice _⟩ => match y with
    | .nils => match op with
      | .eql => some (True, .bool true)
      | .neq => some (True, .bool false)
      | _ => none
    | _ => none
  | _ => none
theorem run_eqnil {P : Program} (w : World) {t e : TypeId} (a : Option Addr) (l c : Nat) (h : P.underlying t = some (.slice e)) {ox oy : Operand} : ((do eqGuard .eql t ox oy (.slice a l c) (.slice none 0 0); binOp .eql t (.slice a l c) (.slice none 0 0) : Sem Value)).run P w = .ok (.bool a.isNone) w ∧
    ((do eqGuard .neq t ox oy (.slice a l c) (.slice none 0 0); binOp .neq t (.slice a l c) (.slice none 0 0) : Sem Value)).run P w = .ok (.bool (!a.isNone)) w := by
  have h0 : (Op.equal t (.slice a l c) (.slice none 0 0)).run P w = .ok a.isNone w := by
    have h1 : ∀ d, (Op.equalIn (d + 1) t (.slice a l c) (.slice none 0 0)).run P w = .ok a.isNone w := fun d => by
      cases a <;> simp [Op.equalIn, run_underlying h]
    exact h1 9999
  constructor <;> rw [eqGuard_at_slice] <;> simp [binOp, h0]
def dop (T : Tab) (op : Op) (r : List DV) (H : Heap) : Option (Prop × DV × Heap) :=
  match op with
  | .move x => some (True, ev r x, H)
  | .assign x => some (True, ev r x, H)
  | .pick c a b => match ev r c with
    | .bool t => some (True, if t then ev r a else ev r b, H)
    | _ => none
  | .alloc t => newP (dAlloc T H t)
  | .box _ x => newP (dBox H (ev r x))
  | .build t parts => pureO (dBuild T t (parts.toList.map fun p => (p.1, ev r p.2))) H
  | .buildSlice t len parts => newP (dBuildSlice T H t len (parts.toList.map fun p => (p.1, ev r p.2)))
  | .load t a => pureP (dLoad T H t (ev r a)) H
  | .store t a x => (dStore T H t (ev r a) (ev r x)).map fun p => (p.1, .tup [], p.2)
  | .nilCheck x => match ev r x with
    | .ptr b q i o => some (True, .ptr b q i o, H)
    | _ => none
  | .binOp op t x y _ => match ev r x with
    | .bool a => pureP (dBinB T op t a (ev r y)) H
    | .sl _ _ _ len _ => pureP (dNilS T op t len (ev r y)) H
    | .nils => pureP (dNilN T op t (ev r y)) H
    | xv => pureP (dBin op xv (ev r y)) H
  | .unOp op _ x => pureO (dUn op (ev r x)) H
  | .convert s d x => pureO (dConv T s d (ev r x)) H
  | .makeFunc (.func f) first caps => if first.size = 0 then match dCaps (caps.toList.map (ev r)) with
      | some c => some (True, .fn f c, H)
      | none => none
    else none
  | .makeSlice t l c => dMake T H t (ev r l) (ev r c)
  | .slice t x lo hi none => pureP (dSlice T H t (ev r x) (optMap r lo) (optMap r hi)) H
  | .fieldAddr t x f => pureO (dFieldAddr T t (ev r x) f) H
  | .field t x f => pureP (dField T t (ev r x) f) H
  | .indexAddr t x i => pureP (dIndexAddr T H t (ev r x) (ev r i)) H
  | .index t x i => pureP (dIndex T t (ev r x) (ev r i)) H
  | .extract x i => match ev r x with
    | .tup l => match l[i]? with
      | some d => some (True, d, H)
      | none => none
    | _ => none
  | .call c => match c.callee with
    | .builtin .append => dAppend T H c.argTypes.toList (c.args.toList.map (ev r))
    | .builtin b => pureO (dBuiltin T b c.argTypes.toList (c.args.toList.map (ev r))) H
    | _ => none
  | _ => none
theorem pureO_some {x : Option DV} {H H' : Heap} {q : Prop} {v : DV} (h : pureO x H = some (q, v, H')) : x = some v ∧ H' = H := by
  unfold pureO at h; cases x with
  | none => cases h
  | some d => cases h; exact ⟨rfl, rfl⟩
theorem pureP_some {x : Option (Prop × DV)} {H H' : Heap} {q : Prop} {v : DV} (h : pureP x H = some (q, v, H')) : x = some (q, v) ∧ H' = H := by
  unfold pureP at h; cases x with
  | none => cases h
  | some d => cases h; exact ⟨rfl, rfl⟩
theorem newP_some {x : Option (DV × Heap)} {H' : Heap} {q : Prop} {v : DV} (h : newP x = some (q, v, H')) : x = some (v, H') := by
  unfold newP at h; cases x with
  | none => cases h
  | some d => cases h; rfl
theorem dBuiltin_ok {P : Program} {T : Tab} (hT : TOk P T) {n : Nat} {μ : Mu} {w : World} {b : Builtin} {ts : Array TypeId} {ty : TypeId} {cs : Array Bool} {xs : List DV} {vs : Array Value} {v : DV} (h : dBuiltin T b ts.toList xs = some v) (hx : L2 (VRel n μ) xs vs.toList) :
    ∃ v', (builtin b ts ty cs vs).run P w = .ok (.value v') w ∧ VRel n μ v v' := by
  obtain ⟨ts⟩ := ts
  obtain ⟨vs⟩ := vs
  simp only at h hx
  unfold dBuiltin at h
  split at h
  · rename_i t x
    match vs, hx with
    | [u], hx =>
      obtain ⟨v', h1, h2⟩ := dLen_ok (P := P) (w := w) (ty := ty) hT h hx.1
      exact ⟨v', by simp [builtin, h1], h2⟩
  · cases h
    match vs, hx with
    | [u1, u2], hx =>
      obtain rfl : u1 = _ := hx.1
      obtain rfl : u2 = _ := hx.2.1
      exact ⟨_, by simp [builtin, run_min_int2], rfl⟩
  · cases h
    match vs, hx with
    | [u1, u2], hx =>
      obtain rfl : u1 = _ := hx.1
      obtain rfl : u2 = _ := hx.2.1
      exact ⟨_, by simp [builtin, run_max_int2], rfl⟩
  · cases h
    match vs, hx with
    | [u1, u2, u3], hx =>
      obtain rfl : u1 = _ := hx.1
      obtain rfl : u2 = _ := hx.2.1
      obtain rfl : u3 = _ := hx.2.2.1
      exact ⟨_, by simp [builtin, Builtin.min_, Builtin.min2], rfl⟩
  · cases h
    match vs, hx with
    | [u1, u2, u3], hx =>
      obtain rfl : u1 = _ := hx.1
      obtain rfl : u2 = _ := hx.2.1
      obtain rfl : u3 = _ := hx.2.2.1
      exact ⟨_, by simp [builtin, Builtin.max_, Builtin.max2], rfl⟩
  · cases h
theorem OpT.pure {P : Program} {o : Oper} {r : List DV} {H H' : Heap} {v : DV} (hH : H' = H)
    (h : ∀ (μ : Mu) (w : World) (a : Act), HRel μ H w → L2 (VRel H.length μ) r a.tmps.toList → ∃ v', (execOp a.eval o).run P w = .ok (.value v') w ∧ VRel H.length μ v v') : OpT P o r H v H' := by
  subst hH; exact OpT.val h
theorem dop_ok {P : Program} {T : Tab} (hT : TOk P T) {o : Oper} {r : List DV} {H H' : Heap} {v : DV} {q : Prop} (h : dop T o.op r H = some (q, v, H')) (hq : q) : OpT P o r H v H' := by
  obtain ⟨dst, op, ty, pos, after, guard⟩ := o
  simp only at h
  cases op <;> simp only [dop] at h <;> first | cases h | skip
  case move x => exact .val fun μ w a hH hr => ⟨_, rfl, ev_ok hr x⟩
  case assign x => exact .val fun μ w a hH hr => ⟨_, rfl, ev_ok hr x⟩
  case pick c x y =>
    split at h
    case h_2 => cases h
    rename_i t hc
    cases h
    refine .val fun μ w a hH hr => ?_
    have hcv := ev_ok hr c
    rw [hc] at hcv
    have hcv : a.eval c = .bool t := hcv
    refine ⟨if t then a.eval x else a.eval y, by simp [execOp, hcv, asBool], ?_⟩
    cases t
    · exact ev_ok hr y
    · exact ev_ok hr x
  case alloc t =>
    refine .run fun μ w a hH hr => ?_
    obtain ⟨μ', v', w', h1, h2, h3⟩ := dAlloc_ok (P := P) hT hH (newP_some h)
    exact ⟨μ', v', w', by simp [execOp, h1], h2, h3⟩
  case box t x =>
    refine .run fun μ w a hH hr => ?_
    obtain ⟨μ', v', w', h1, h2, h3⟩ := dBox_ok (P := P) (t := t) hH (newP_some h) (ev_ok hr x)
    exact ⟨μ', v', w', by simp [execOp, h1], h2, h3⟩
  case build t ps =>
    obtain ⟨h1, h2⟩ := pureO_some h
    refine .pure h2 fun μ w a hH hr => ?_
    obtain ⟨v', h1, h2⟩ := dBuild_ok hT h1 (parts_ok hr ps) w
    exact ⟨v', by simp only [execOp, Sem.run_bind, h1, Result.andThen_ok, Sem.run_pure], h2⟩
  case buildSlice t n ps =>
    refine .run fun μ w a hH hr => ?_
    obtain ⟨μ', v', w', h1, h2, h3⟩ := dBuildSlice_ok hT hH (newP_some h) (parts_ok hr ps)
    exact ⟨μ', v', w', by simp only [execOp, Sem.run_bind, h1, Result.andThen_ok, Sem.run_pure], h2, h3⟩
  case load t x =>
    obtain ⟨h1, h2⟩ := pureP_some h
    refine .pure h2 fun μ w a hH hr => ?_
    obtain ⟨v', h1, h2⟩ := dLoad_ok hT hH h1 hq (ev_ok hr x)
    exact ⟨v', by simp [execOp, h1], h2⟩
  case store t x y =>
    cases hs : dStore T H t (ev r x) (ev r y) with
    | none => rw [hs] at h; cases h
    | some p =>
      rw [hs] at h
      obtain ⟨q0, H0⟩ := p
      cases h
      refine .skip fun μ w a hH hr => ?_
      obtain ⟨w', h1, h2⟩ := dStore_ok (P := P) hT hH hs hq (ev_ok hr x) (ev_ok hr y)
      exact ⟨μ, w', by simp [execOp, h1], h2⟩
  case nilCheck x =>
    split at h
    case h_2 => cases h
    rename_i b q i o hx
    cases h
    refine .val fun μ w a hH hr => ?_
    have hv := ev_ok hr x
    rw [hx] at hv
    have hv' : a.eval x = .pointer (some (μ.loc b q i o)) := hv.2
    refine ⟨_, ?_, hv⟩
    simp [execOp, hv']
  case binOp op t x y yt =>
    split at h
    · rename_i a hx
      obtain ⟨h1, h2⟩ := pureP_some h
      refine .pure h2 fun μ w a' hH hr => ?_
      have hxv := ev_ok hr x
      rw [hx] at hxv
      have hxv : a'.eval x = .bool a := hxv
      obtain ⟨v', h1, h2⟩ := dBinB_ok (P := P) hT (t := t) (ox := x) (oy := y) h1 (ev_ok hr y) w
      exact ⟨v', by simp only [execOp, Sem.run_bind, hxv] at h1 ⊢; rw [h1]; rfl, h2⟩
    · rename_i b' q' i' len cap hx
      obtain ⟨h1, h2⟩ := pureP_some h
      refine .pure h2 fun μ w a' hH hr => ?_
      have hxv := ev_ok hr x
      rw [hx] at hxv
      have hyv := ev_ok hr y
      unfold dNilS at h1
      split at h1
      case h_2 => cases h1
      rename_i hti
      have hu := (hT _ _ hti).und
      simp only [TK.ok] at hu
      split at h1
      case h_2 => cases h1
      rename_i hy
      rw [hy] at hyv
      have hyv : a'.eval y = .slice none 0 0 := hyv
      have hsl : 0 < len → ∃ ad c, a'.eval x = .slice (some ad) len c := fun h0 => by
        rcases hxv.2 with ⟨h3, _⟩ | ⟨ad, c, h3, _⟩
        · omega
        · exact ⟨ad, c, h3⟩
      split at h1 <;> cases h1
      · obtain ⟨ad, c, hxe⟩ := hsl hq
        exact ⟨.bool false, by have := (run_eqnil (P := P) w (some ad) len c hu (ox := x) (oy := y)).1; simp only [execOp, Sem.run_bind, hxe, hyv] at this ⊢; rw [this]; rfl, rfl⟩
      · obtain ⟨ad, c, hxe⟩ := hsl hq
        exact ⟨.bool true, by have := (run_eqnil (P := P) w (some ad) len c hu (ox := x) (oy := y)).2; simp only [execOp, Sem.run_bind, hxe, hyv] at this ⊢; rw [this]; rfl, rfl⟩
    · rename_i hx
      obtain ⟨h1, h2⟩ := pureP_some h
      refine .pure h2 fun μ w a' hH hr => ?_
      have hxv := ev_ok hr x
      rw [hx] at hxv
      have hxe : a'.eval x = .slice none 0 0 := hxv
      have hyv := ev_ok hr y
      unfold dNilN at h1
      split at h1
      case h_2 => cases h1
      rename_i hti
      have hu := (hT _ _ hti).und
      simp only [TK.ok] at hu
      split at h1
      case h_2 => cases h1
      rename_i hy
      rw [hy] at hyv
      have hyv : a'.eval y = .slice none 0 0 := hyv
      split at h1 <;> cases h1
      · exact ⟨.bool true, by have := (run_eqnil (P := P) w none 0 0 hu (ox := x) (oy := y)).1; simp only [execOp, Sem.run_bind, hxe, hyv] at this ⊢; rw [this]; rfl, rfl⟩
      · exact ⟨.bool false, by have := (run_eqnil (P := P) w none 0 0 hu (ox := x) (oy := y)).2; simp only [execOp, Sem.run_bind, hxe, hyv] at this ⊢; rw [this]; rfl, rfl⟩
    · obtain ⟨h1, h2⟩ := pureP_some h
      refine .pure h2 fun μ w a hH hr => ?_
      obtain ⟨v', h1, h2⟩ := dBin_ok (P := P) (t := t) (ox := x) (oy := y) h1 hq (ev_ok hr x) (ev_ok hr y) w
      exact ⟨v', by simp only [execOp, Sem.run_bind] at h1 ⊢; rw [h1]; rfl, h2⟩
  case unOp op t x =>
    obtain ⟨h1, h2⟩ := pureO_some h
    refine .pure h2 fun μ w a hH hr => ?_
    obtain ⟨v', h1, h2⟩ := dUn_ok (P := P) h1 (ev_ok hr x) w
    exact ⟨v', by simp [execOp, h1], h2⟩
  case convert s d x =>
    obtain ⟨h1, h2⟩ := pureO_some h
    refine .pure h2 fun μ w a hH hr => ?_
    obtain ⟨v', h1, h2⟩ := dConv_ok hT h1 (ev_ok hr x) w
    exact ⟨v', by simp [execOp, h1], h2⟩
  case makeFunc f fs cs =>
    cases f <;> simp only at h <;> first | cases h | skip
    split at h
    case isFalse => cases h
    rename_i hf
    split at h
    case h_2 => cases h
    rename_i c hc
    cases h
    refine .val fun μ w a hH hr => ?_
    obtain ⟨h1, h2⟩ := dCaps_ok (μ := μ) (n := H.length) hc (by have := args_ok hr cs; rwa [Array.toList_map] at this)
    obtain rfl : fs = #[] := Array.eq_empty_of_size_eq_zero hf
    refine ⟨_, ?_, h1, rfl⟩
    simp only [execOp, Instr.makeFunc, Sem.run_bind, Sem.run_pure, Result.andThen_ok, Array.map_empty]
    rw [← h2]
    congr 3
    apply Array.ext'
    simp
  case makeSlice t l c =>
    refine .run fun μ w a hH hr => ?_
    obtain ⟨μ', v', w', h1, h2, h3⟩ := dMake_ok (P := P) hT hH h hq (ev_ok hr l) (ev_ok hr c)
    exact ⟨μ', v', w', by simp [execOp, h1], h2, h3⟩
  case slice t x lo hi mx =>
    cases mx <;> simp only at h <;> first | cases h | skip
    obtain ⟨h1, h2⟩ := pureP_some h
    refine .pure h2 fun μ w a hH hr => ?_
    obtain ⟨v', h1, h2⟩ := dSlice_ok (P := P) hT hH h1 hq (ev_ok hr x) (opt_ok hr lo) (opt_ok hr hi)
    exact ⟨v', by simp [execOp, h1], h2⟩
  case fieldAddr t x f =>
    obtain ⟨h1, h2⟩ := pureO_some h
    refine .pure h2 fun μ w a hH hr => ?_
    obtain ⟨v', h1, h2⟩ := dFieldAddr_ok hT h1 (ev_ok hr x) w
    exact ⟨v', by simp [execOp, h1], h2⟩
  case field t x f =>
    obtain ⟨h1, h2⟩ := pureP_some h
    refine .pure h2 fun μ w a hH hr => ?_
    obtain ⟨v', h1, h2⟩ := dField_ok hT h1 (ev_ok hr x) w
    exact ⟨v', by simp [execOp, h1], h2⟩
  case indexAddr t x i =>
    obtain ⟨h1, h2⟩ := pureP_some h
    refine .pure h2 fun μ w a hH hr => ?_
    obtain ⟨v', h1, h2⟩ := dIndexAddr_ok hT hH h1 hq (ev_ok hr x) (ev_ok hr i)
    exact ⟨v', by simp [execOp, h1], h2⟩
  case index t x i =>
    obtain ⟨h1, h2⟩ := pureP_some h
    refine .pure h2 fun μ w a hH hr => ?_
    obtain ⟨v', h1, h2⟩ := dIndex_ok (P := P) (w := w) hT h1 hq (ev_ok hr x) (ev_ok hr i)
    exact ⟨v', by simp [execOp, h1], h2⟩
  case extract x i =>
    split at h
    case h_2 => cases h
    rename_i l hx
    split at h
    case h_2 => cases h
    rename_i d hd
    cases h
    refine .val fun μ w a hH hr => ?_
    have hv := ev_ok hr x
    rw [hx] at hv
    obtain ⟨vs, hv1, hv2⟩ := hv
    obtain ⟨u, hu, hr2⟩ := hv2.get hd
    have hu : vs[i]? = some u := by simpa using hu
    exact ⟨u, by simp [execOp, hv1, Instr.extract, hu], hr2.val⟩
  case call c =>
    obtain ⟨callee, args, ts⟩ := c
    cases callee <;> simp only at h <;> first | cases h | skip
    rename_i b
    by_cases hb : b = .append
    · subst hb
      simp only at h
      refine .run fun μ w a hH hr => ?_
      obtain ⟨v', w', μ', k1, k2, k3⟩ := dAppend_ok (P := P) (w := w) (ty := ty) hT hH h hq (args_ok hr args)
      refine ⟨μ', v', w', ?_, k2, k3⟩
      simp only [execOp, resolve, Sem.run_bind, Sem.run_pure, Result.andThen_ok, invoke]
      simp [builtin, k1]
    · have h : pureO (dBuiltin T b ts.toList (args.toList.map (ev r))) H = some (q, v, H') := by
        cases b <;> first | exact absurd rfl hb | exact h
      obtain ⟨h1, h2⟩ := pureO_some h
      refine .pure h2 fun μ w a hH hr => ?_
      obtain ⟨v', k1, k2⟩ := dBuiltin_ok (P := P) (w := w) (ty := ty) (cs := args.map fun | .const _ => true | _ => false) hT h1 (args_ok hr args)
      exact ⟨v', by simp only [execOp, resolve, Sem.run_bind, Sem.run_pure, Result.andThen_ok, invoke]; exact k1, k2⟩
end Go.Proofs.YtaklcaejeaiagaaE
namespace Go.Proofs.YtaklcaejeaiagaaE
open Go.RowKit

/-! ### seen through a renaming -/
abbrev Ren := Nat → Nat → Nat × Nat × Nat
def Mu.via (μ : Mu) (ρ : Ren) : Mu := fun b q => ⟨(μ (ρ b q).1 (ρ b q).2.1).g, (μ (ρ b q).1 (ρ b q).2.1).o + (ρ b q).2.2 * (μ (ρ b q).1 (ρ b q).2.1).z, (μ (ρ b q).1 (ρ b q).2.1).z, (μ (ρ b q).1 (ρ b q).2.1).m.map (· - (ρ b q).2.2)⟩
theorem Mu.via_loc (μ : Mu) (ρ : Ren) (b q i o : Nat) : (μ.via ρ).loc b q i o = μ.loc (ρ b q).1 (ρ b q).2.1 (i + (ρ b q).2.2) o := by
  simp only [Mu.loc, Mu.via, Nat.add_mul]
  congr 1; omega
theorem Mu.via_id (μ : Mu) {ρ : Ren} {b q : Nat} {x y : Nat} (h : ρ b q = (x, y, 0)) : μ.via ρ b q = μ x y := by
  simp only [Mu.via, h]
  cases hs : μ x y with
  | mk g o z m => cases m <;> simp
def LeLeaf (ρ : Ren) (n : Nat) : DV → DV → Prop
  | x, .any => True
  | x, .ptr b q i o => b < n ∧ x = .ptr (ρ b q).1 (ρ b q).2.1 (i + (ρ b q).2.2) o
  | x, .sl b q i len cap => b < n ∧ ((len = 0 ∧ cap = 0 ∧ x = .nils) ∨ ∃ cap', cap ≤ cap' ∧ x = .sl (ρ b q).1 (ρ b q).2.1 (i + (ρ b q).2.2) len cap')
  | x, .fn f caps => (∀ b ∈ caps, b < n ∧ (ρ b 0).2 = (0, 0)) ∧ x = .fn f (caps.map fun b => (ρ b 0).1)
  | x, .agg _ => False
  | x, .tup _ => False
  | x, y => x = y
def LeElem (ρ : Ren) (n : Nat) : DV → DV → Prop
  | x, .agg l => ∃ l', x = .agg l' ∧ L2 (LeLeaf ρ n) l' l
  | x, y => LeLeaf ρ n x y
def LeV (ρ : Ren) (n : Nat) : DV → DV → Prop
  | x, .tup l => ∃ l', x = .tup l' ∧ L2 (LeElem ρ n) l' l
  | x, y => LeElem ρ n x y
theorem L2.flip {α β : Type} {R : α → β → Prop} {l : List α} {m : List β} (h : L2 R l m) : L2 (fun b a => R a b) m l :=
  L2.of h.length.symm fun i b a hb ha => by obtain ⟨c, hc, r⟩ := h.get ha; rw [hb] at hc; exact Option.some.inj hc ▸ r
theorem LeLeaf.ok {n1 n : Nat} {μ : Mu} {ρ : Ren} {x y : DV} {v : Value} (h : Leaf n1 μ x v) (k : LeLeaf ρ n x y) : Leaf n (μ.via ρ) y v := by
  cases y with
  | any => exact trivial
  | ptr b q i o =>
    obtain ⟨hb, rfl⟩ := k
    exact ⟨hb, by rw [Mu.via_loc]; exact h.2⟩
  | sl b q i len cap =>
    obtain ⟨hb, k⟩ := k
    refine ⟨hb, ?_⟩
    rcases k with ⟨rfl, rfl, rfl⟩ | ⟨cap', hc, rfl⟩
    · exact .inl ⟨rfl, rfl, h⟩
    · rcases h.2 with ⟨h1, h2, h3⟩ | ⟨a, c, h1, h2, h3, h4⟩
      · exact .inl ⟨h1, by omega, h3⟩
      · refine .inr ⟨a, c, h1, h2, by omega, ?_⟩
        rcases h4 with h4 | ⟨h4, h5⟩
        · exact .inl h4
        · refine .inr ⟨by rw [Mu.via_loc]; exact h4, fun m hm => ?_⟩
          simp only [Mu.via] at hm
          cases hmm : (μ (ρ b q).1 (ρ b q).2.1).m with
          | none => rw [hmm] at hm; cases hm
          | some m0 =>
            rw [hmm] at hm
            simp only [Option.map_some, Option.some.injEq] at hm
            have := h5 m0 hmm
            omega
  | fn f caps =>
    obtain ⟨k1, rfl⟩ := k
    refine ⟨fun b hb => (k1 b hb).1, ?_⟩
    rw [h.2, List.map_map]
    congr 2
    refine List.map_congr_left fun b hb => ?_
    have hb2 := (k1 b hb).2
    simp only [Function.comp]
    rw [Mu.via_loc]
    have e1 : (ρ b 0).2.1 = 0 := by rw [hb2]
    have e2 : (ρ b 0).2.2 = 0 := by rw [hb2]
    rw [e1, e2]
  | agg l => exact k.elim
  | tup l => exact k.elim
  | _ => obtain rfl : x = _ := k; exact h
theorem LeElem.ok {n1 n : Nat} {μ : Mu} {ρ : Ren} {x y : DV} {v : Value} (h : Elem n1 μ x v) (k : LeElem ρ n x y) : Elem n (μ.via ρ) y v := by
  have leaf : ∀ {x y : DV}, LeLeaf ρ n x y → Elem n1 μ x v → Elem n (μ.via ρ) y v := by
    intro x y k h
    cases x with
    | agg l => cases y <;> first | exact trivial | exact k.elim | (obtain ⟨_, k⟩ := k; cases k; done) | (obtain ⟨_, k⟩ := k; rcases k with ⟨_, _, k⟩ | ⟨_, _, k⟩ <;> cases k) | cases k
    | tup l => exact (show Leaf n1 μ (.tup l) v from h).elim
    | any => exact (LeLeaf.ok (n1 := n1) (μ := μ) (v := v) (x := .any) trivial k).elem
    | ptr b q i o => exact (LeLeaf.ok (n1 := n1) (μ := μ) (v := v) (x := .ptr b q i o) h k).elem
    | sl b q i len cap => exact (LeLeaf.ok (n1 := n1) (μ := μ) (v := v) (x := .sl b q i len cap) h k).elem
    | fn f caps => exact (LeLeaf.ok (n1 := n1) (μ := μ) (v := v) (x := .fn f caps) h k).elem
    | int kk m => exact (LeLeaf.ok (n1 := n1) (μ := μ) (v := v) (x := .int kk m) h k).elem
    | bool b => exact (LeLeaf.ok (n1 := n1) (μ := μ) (v := v) (x := .bool b) h k).elem
    | str s => exact (LeLeaf.ok (n1 := n1) (μ := μ) (v := v) (x := .str s) h k).elem
    | nilp => exact (LeLeaf.ok (n1 := n1) (μ := μ) (v := v) (x := .nilp) h k).elem
    | nils => exact (LeLeaf.ok (n1 := n1) (μ := μ) (v := v) (x := .nils) h k).elem
  cases y with
  | agg l =>
    obtain ⟨l', rfl, k⟩ := k
    obtain ⟨vs, rfl, h⟩ := h
    exact ⟨vs, rfl, L2.trans (fun (a : DV) (b : DV) (c : Value) (h1 : LeLeaf ρ n b a) (h2 : Leaf n1 μ b c) => LeLeaf.ok h2 h1) k.flip h⟩
  | tup l => exact (show LeLeaf ρ n x (.tup l) from k).elim
  | any => exact trivial
  | ptr b q i o => exact leaf (y := .ptr b q i o) k h
  | sl b q i len cap => exact leaf (y := .sl b q i len cap) k h
  | fn f caps => exact leaf (y := .fn f caps) k h
  | int kk m => exact leaf (y := .int kk m) k h
  | bool b => exact leaf (y := .bool b) k h
  | str s => exact leaf (y := .str s) k h
  | nilp => exact leaf (y := .nilp) k h
  | nils => exact leaf (y := .nils) k h
theorem LeV.ok {n1 n : Nat} {μ : Mu} {ρ : Ren} {x y : DV} {v : Value} (h : VRel n1 μ x v) (k : LeV ρ n x y) : VRel n (μ.via ρ) y v := by
  have elem : ∀ {x y : DV}, LeElem ρ n x y → VRel n1 μ x v → VRel n (μ.via ρ) y v := by
    intro x y k h
    cases x with
    | tup l => cases y <;> first | exact trivial | (obtain ⟨_, k, _⟩ := k; cases k; done) | exact k.elim | (obtain ⟨_, k⟩ := k; cases k; done) | (obtain ⟨_, k⟩ := k; rcases k with ⟨_, _, k⟩ | ⟨_, _, k⟩ <;> cases k) | cases k
    | agg l => exact (LeElem.ok (n1 := n1) (μ := μ) (v := v) (x := .agg l) h k).val
    | any => exact (LeElem.ok (n1 := n1) (μ := μ) (v := v) (x := .any) trivial k).val
    | ptr b q i o => exact (LeElem.ok (n1 := n1) (μ := μ) (v := v) (x := .ptr b q i o) h k).val
    | sl b q i len cap => exact (LeElem.ok (n1 := n1) (μ := μ) (v := v) (x := .sl b q i len cap) h k).val
    | fn f caps => exact (LeElem.ok (n1 := n1) (μ := μ) (v := v) (x := .fn f caps) h k).val
    | int kk m => exact (LeElem.ok (n1 := n1) (μ := μ) (v := v) (x := .int kk m) h k).val
    | bool b => exact (LeElem.ok (n1 := n1) (μ := μ) (v := v) (x := .bool b) h k).val
    | str s => exact (LeElem.ok (n1 := n1) (μ := μ) (v := v) (x := .str s) h k).val
    | nilp => exact (LeElem.ok (n1 := n1) (μ := μ) (v := v) (x := .nilp) h k).val
    | nils => exact (LeElem.ok (n1 := n1) (μ := μ) (v := v) (x := .nils) h k).val
  cases y with
  | tup l =>
    obtain ⟨l', rfl, k⟩ := k
    obtain ⟨vs, rfl, h⟩ := h
    exact ⟨vs, rfl, L2.trans (fun (a : DV) (b : DV) (c : Value) (h1 : LeElem ρ n b a) (h2 : Elem n1 μ b c) => LeElem.ok h2 h1) k.flip h⟩
  | any => exact trivial
  | agg l => exact elem (y := .agg l) k h
  | ptr b q i o => exact elem (y := .ptr b q i o) k h
  | sl b q i len cap => exact elem (y := .sl b q i len cap) k h
  | fn f caps => exact elem (y := .fn f caps) k h
  | int kk m => exact elem (y := .int kk m) k h
  | bool b => exact elem (y := .bool b) k h
  | str s => exact elem (y := .str s) k h
  | nilp => exact elem (y := .nilp) k h
  | nils => exact elem (y := .nils) k h
theorem LeVs.ok {n1 n : Nat} {μ : Mu} {ρ : Ren} {xs ys : List DV} {vs : List Value} (h : L2 (VRel n1 μ) xs vs) (k : L2 (LeV ρ n) xs ys) : L2 (VRel n (μ.via ρ)) ys vs :=
  L2.trans (fun (a : DV) (b : DV) (c : Value) (h1 : LeV ρ n b a) (h2 : VRel n1 μ b c) => LeV.ok h2 h1) k.flip h
structure View (ρ : Ren) (H1 H2 : Heap) : Prop where
  rows : ∀ b e2, look H2 b = some e2 → ∀ q, q < e2.m → ∃ e1, look H1 (ρ b q).1 = some e1 ∧ (ρ b q).2.1 < e1.m ∧ (e2.w = true → e1.w = true ∧ (ρ b q).2.2 = 0) ∧
    (e1.row (ρ b q).2.1).z = (e2.row q).z ∧ ∀ i, i < (e2.row q).n → i + (ρ b q).2.2 < (e1.row (ρ b q).2.1).n ∧ L2 (LeLeaf ρ H2.length) ((e1.row (ρ b q).2.1).at (i + (ρ b q).2.2)) ((e2.row q).at i)
  inj : ∀ b e q b' e' q', look H2 b = some e → e.w = true → q < e.m → look H2 b' = some e' → q' < e'.m → (b ≠ b' ∨ q ≠ q') → ((ρ b q).1 ≠ (ρ b' q').1 ∨ (ρ b q).2.1 ≠ (ρ b' q').2.1)
theorem View.hrel {ρ : Ren} {μ : Mu} {H1 H2 : Heap} {w : World} (hv : View ρ H1 H2) (h : HRel μ H1 w) : HRel (μ.via ρ) H2 w := by
  refine ⟨fun b e2 he q hq => ?_, fun b e2 he hw q hq => ?_, fun b e q b' e' q' h1 hw h2 hm1 h3 h4 hne hlv => ?_⟩
  · obtain ⟨e1, k1, k2, k3, k4, k5⟩ := hv.rows b e2 he q hq
    have hr := h.rows _ e1 k1 _ k2
    refine ⟨by rw [← k4, ← hr.z]; rfl, fun hn => ?_⟩
    obtain ⟨cs, t, fz, hh, hc⟩ := hr.cells (by have := (k5 0 hn).1; omega)
    refine ⟨cs, t, fz, hh, fun i hi => ?_⟩
    obtain ⟨l1, l2⟩ := k5 i hi
    obtain ⟨m1, m2⟩ := hc _ l1
    refine ⟨by rw [← l2.length, m1, k4], fun j d hd => ?_⟩
    obtain ⟨d1, hd1, hle⟩ := l2.get' hd
    obtain ⟨v, hv1, hl⟩ := m2 j d1 hd1
    refine ⟨v, ?_, LeLeaf.ok hl hle⟩
    rw [← hv1]
    simp only [Mu.via, Nat.add_mul]
    congr 1; omega
  · obtain ⟨e1, k1, k2, k3, k4, k5⟩ := hv.rows b e2 he q hq
    obtain ⟨w1, s0⟩ := k3 hw
    obtain ⟨m, o2, o4, o3⟩ := h.own _ e1 k1 w1 _ k2
    refine ⟨m, by simp [Mu.via, o2, s0], fun h0 => o4 (by have := (k5 0 h0).1; omega), fun h0 => ?_⟩
    obtain ⟨cs, t, o1, o5⟩ := o3 h0
    exact ⟨cs, t, o1, by simpa [Mu.via, s0] using o5⟩
  · obtain ⟨e1, k1, k2, k3, _⟩ := hv.rows b e h1 q h2
    obtain ⟨e1', k1', k2', k3', k4', k5'⟩ := hv.rows b' e' h3 q' h4
    have vm : ∀ {b q : Nat}, (ρ b q).2.2 = 0 → (μ.via ρ b q).m = (μ (ρ b q).1 (ρ b q).2.1).m := fun {b q} hs => by simp only [Mu.via, hs]; cases (μ (ρ b q).1 (ρ b q).2.1).m <;> simp
    exact h.inj _ e1 _ _ e1' _ k1 (k3 hw).1 k2 (by rwa [vm (k3 hw).2] at hm1) k1' k2' (hv.inj b e q b' e' q' h1 hw h2 h3 h4 hne) (by
      rcases hlv with hlv | hlv
      · exact .inl ⟨(k3' hlv.1).1, by have := hlv.2; rwa [vm (k3' hlv.1).2] at this⟩
      · right; have := (k5' 0 hlv).1; omega)
theorem Step.view {ρ : Ren} {μ μ1 : Mu} {H H1 H2 : Heap} {w w1 : World} (h : Step μ H w μ1 H1 w1) (hv : View ρ H1 H2) (hid : ∀ b, b < H.length → ∀ q, ρ b q = (b, q, 0)) (hlen : H.length ≤ H2.length) : Step μ H w (μ1.via ρ) H2 w1 := by
  refine ⟨h.os, h.tape, h.output, h.size, h.frame, fun b hb => ?_, hlen, hv.hrel h.hrel, fun b e q hb hw hq hm => ?_⟩
  · rw [← h.mu b hb]
    funext q
    exact Mu.via_id μ1 (hid b hb q)
  · obtain ⟨e1, k1, k2, k3, _⟩ := hv.rows b e hb q hq
    have vm : (μ1.via ρ b q).m = (μ1 (ρ b q).1 (ρ b q).2.1).m := by simp only [Mu.via, (k3 hw).2]; cases (μ1 (ρ b q).1 (ρ b q).2.1).m <;> simp
    exact h.fresh _ e1 _ k1 (k3 hw).1 k2 (by rwa [vm] at hm)

/-! ### a function's contract -/
def Tri (P : Program) (f : FuncId) (args : List DV) (H : Heap) (v : DV) (H' : Heap) : Prop :=
  ∀ (μ : Mu) (w : World) (cargs : Array Value), HRel μ H w → L2 (VRel H.length μ) args cargs.toList →
    Calls P f cargs w fun e w' => ∃ μ' v', e = .returned v' ∧ VRel H'.length μ' v v' ∧ Step μ H w μ' H' w'
end Go.Proofs.YtaklcaejeaiagaaE
namespace Go.Proofs.YtaklcaejeaiagaaE
open Go.RowKit

/-! ### renamed -/
def renL (σ : Ren) : DV → DV
  | .ptr b q i o => .ptr (σ b q).1 (σ b q).2.1 (i + (σ b q).2.2) o
  | .sl b q i len cap => .sl (σ b q).1 (σ b q).2.1 (i + (σ b q).2.2) len cap
  | .fn f caps => if caps.all (fun b => (σ b 0).2.1 == 0 && (σ b 0).2.2 == 0) then .fn f (caps.map fun b => (σ b 0).1) else .any
  | .agg _ => .any
  | .tup _ => .any
  | x => x
def renE (σ : Ren) : DV → DV
  | .agg l => .agg (l.map (renL σ))
  | x => renL σ x
def renV (σ : Ren) : DV → DV
  | .tup l => .tup (l.map (renE σ))
  | x => renE σ x
def Row.ren (σ : Ren) : Row → Row
  | .lst z xs => .lst z (xs.map fun l => l.map (renL σ))
  | .arr z n f => .arr z n fun i => (f i).map (renL σ)
def Ent.ren (σ : Ren) : Ent → Ent
  | .one w r => .one w (r.ren σ)
  | .fam w m f => .fam w m fun q => (f q).ren σ
theorem Row.ren_z (σ : Ren) (r : Row) : (r.ren σ).z = r.z := by cases r <;> rfl
theorem Row.ren_n (σ : Ren) (r : Row) : (r.ren σ).n = r.n := by cases r <;> simp [Row.ren, Row.n]
theorem Row.ren_at (σ : Ren) (r : Row) (i : Nat) : (r.ren σ).at i = (r.at i).map (renL σ) := by
  cases r with
  | lst z xs =>
    simp only [Row.ren, Row.at, List.getD_eq_getElem?_getD, List.getElem?_map]
    cases xs[i]? <;> rfl
  | arr z n f => rfl
theorem Ent.ren_w (σ : Ren) (e : Ent) : (e.ren σ).w = e.w := by cases e <;> rfl
theorem Ent.ren_m (σ : Ren) (e : Ent) : (e.ren σ).m = e.m := by cases e <;> rfl
theorem Ent.ren_row (σ : Ren) (e : Ent) (q : Nat) : (e.ren σ).row q = (e.row q).ren σ := by cases e <;> rfl
structure RenOk (n : Nat) (ν : Mu) (σ : Ren) (n' : Nat) (μ : Mu) : Prop where
  lt : ∀ b, b < n → ∀ q, (σ b q).1 < n'
  mu : ∀ b, b < n → ∀ q, ν b q = μ.via σ b q
theorem RenOk.loc {n n' : Nat} {ν μ : Mu} {σ : Ren} (h : RenOk n ν σ n' μ) {b : Nat} (hb : b < n) (q i o : Nat) : ν.loc b q i o = μ.loc (σ b q).1 (σ b q).2.1 (i + (σ b q).2.2) o := by
  rw [← Mu.via_loc]
  unfold Mu.loc
  rw [h.mu b hb]
theorem renL_ok {n n' : Nat} {ν μ : Mu} {σ : Ren} (h : RenOk n ν σ n' μ) {x : DV} {v : Value} (k : Leaf n ν x v) : Leaf n' μ (renL σ x) v := by
  cases x with
  | ptr b q i o => exact ⟨h.lt b k.1 q, by rw [k.2, h.loc k.1]⟩
  | sl b q i len cap =>
    refine ⟨h.lt b k.1 q, ?_⟩
    rcases k.2 with k2 | ⟨a, c, h1, h2, h3, h4⟩
    · exact .inl k2
    · refine .inr ⟨a, c, h1, h2, h3, ?_⟩
      rcases h4 with h4 | ⟨h4, h5⟩
      · exact .inl h4
      · by_cases hc : c = 0
        · exact .inl hc
        refine .inr ⟨by rw [h4, h.loc k.1], fun m hm => ?_⟩
        have hh := h.mu b k.1 q
        have := h5 (m - (σ b q).2.2) (by rw [hh]; simp [Mu.via, hm])
        omega
  | fn f caps =>
    show Leaf n' μ (if caps.all (fun b => (σ b 0).2.1 == 0 && (σ b 0).2.2 == 0) then .fn f (caps.map fun b => (σ b 0).1) else .any) v
    split
    · rename_i hc
      rw [List.all_eq_true] at hc
      refine ⟨fun b hb => ?_, ?_⟩
      · obtain ⟨b0, h0, rfl⟩ := List.mem_map.1 hb
        exact h.lt b0 (k.1 b0 h0) 0
      · rw [k.2, List.map_map]
        congr 2
        refine List.map_congr_left fun b hb => ?_
        have := hc b hb
        simp only [Bool.and_eq_true, beq_iff_eq] at this
        simp only [Function.comp]
        rw [h.loc (k.1 b hb), this.1, this.2]
    · exact trivial
  | agg l => exact k.elim
  | tup l => exact k.elim
  | _ => exact k
theorem renE_ok {n n' : Nat} {ν μ : Mu} {σ : Ren} (h : RenOk n ν σ n' μ) {x : DV} {v : Value} (k : Elem n ν x v) : Elem n' μ (renE σ x) v := by
  cases x with
  | agg l =>
    obtain ⟨vs, rfl, k⟩ := k
    refine ⟨vs, rfl, L2.of (by rw [List.length_map]; exact k.length) fun i a b ha hb => ?_⟩
    rw [List.getElem?_map] at ha
    obtain ⟨d, hd, r⟩ := k.get' hb
    rw [hd] at ha
    cases ha
    exact renL_ok h r
  | tup l => exact (show Leaf n ν (.tup l) v from k).elim
  | any => exact trivial
  | ptr b q i o => exact (renL_ok (x := .ptr b q i o) h k).elem
  | sl b q i len cap => exact (renL_ok (x := .sl b q i len cap) h k).elem
  | fn f caps => exact (renL_ok (x := .fn f caps) h k).elem
  | _ => exact k
theorem renV_ok {n n' : Nat} {ν μ : Mu} {σ : Ren} (h : RenOk n ν σ n' μ) {x : DV} {v : Value} (k : VRel n ν x v) : VRel n' μ (renV σ x) v := by
  cases x with
  | tup l =>
    obtain ⟨vs, rfl, k⟩ := k
    refine ⟨vs, rfl, L2.of (by rw [List.length_map]; exact k.length) fun i a b ha hb => ?_⟩
    rw [List.getElem?_map] at ha
    obtain ⟨d, hd, r⟩ := k.get' hb
    rw [hd] at ha
    cases ha
    exact renE_ok h r
  | agg l => exact (renE_ok (x := .agg l) h k).val
  | any => exact trivial
  | ptr b q i o => exact (renE_ok (x := .ptr b q i o) h k).val
  | sl b q i len cap => exact (renE_ok (x := .sl b q i len cap) h k).val
  | fn f caps => exact (renE_ok (x := .fn f caps) h k).val
  | _ => exact k
theorem RowOk.ren {n n' : Nat} {ν μ : Mu} {σ : Ren} (h : RenOk n ν σ n' μ) {row : Row} {p : Spot} {w : World} (k : RowOk n ν row p w) : RowOk n' μ (row.ren σ) p w := by
  refine ⟨by rw [Row.ren_z]; exact k.z, fun hn => ?_⟩
  rw [Row.ren_n] at hn
  obtain ⟨cs, t, fz, hh, hc⟩ := k.cells hn
  refine ⟨cs, t, fz, hh, fun i hi => ?_⟩
  rw [Row.ren_n] at hi
  rw [Row.ren_at, Row.ren_z, List.length_map]
  refine ⟨(hc i hi).1, fun j d hd => ?_⟩
  rw [List.getElem?_map] at hd
  cases hx : (row.at i)[j]? with
  | none => rw [hx] at hd; cases hd
  | some d0 =>
    rw [hx] at hd
    cases hd
    obtain ⟨v, hv, hl⟩ := (hc i hi).2 j d0 hx
    exact ⟨v, hv, renL_ok h hl⟩

/-! ### a call, seen from the caller -/
def backH (σ : Ren) (Hs' : Heap) (js : List (Nat × Nat)) : Nat → Heap → Heap
  | _, [] => []
  | b, x :: H => (match js.lookup b with | some j => (look Hs' j).map (Ent.ren σ) | none => x) :: backH σ Hs' js (b + 1) H
theorem backH_length (σ : Ren) (Hs' : Heap) (js : List (Nat × Nat)) : ∀ (H : Heap) (b : Nat), (backH σ Hs' js b H).length = H.length
  | [], _ => rfl
  | _ :: H, b => by simp [backH, backH_length σ Hs' js H (b + 1)]
theorem backH_look (σ : Ren) (Hs' : Heap) (js : List (Nat × Nat)) : ∀ (H : Heap) (b k : Nat), k < H.length → look (backH σ Hs' js b H) k = match js.lookup (b + k) with | some j => (look Hs' j).map (Ent.ren σ) | none => look H k
  | [], _, _, h => by simp at h
  | x :: H, b, 0, _ => by simp [backH, look]
  | x :: H, b, k + 1, h => by
    have := backH_look σ Hs' js H (b + 1) k (by simpa using h)
    have e1 : look (backH σ Hs' js b (x :: H)) (k + 1) = look (backH σ Hs' js (b + 1) H) k := by simp [backH, look]
    have e2 : look (x :: H) (k + 1) = look H k := by simp [look]
    rw [e1, this, e2, show b + 1 + k = b + (k + 1) by omega]
theorem backH_nil (σ : Ren) (Hs' : Heap) : ∀ (H : Heap) (b : Nat), backH σ Hs' [] b H = H
  | [], _ => rfl
  | x :: H, b => by simp [backH, backH_nil σ Hs' H (b + 1)]
def afterH (σ : Ren) (ns : Nat) (js : List (Nat × Nat)) (H Hs' : Heap) : Heap := backH σ Hs' js 0 H ++ (Hs'.drop ns).map fun x => x.map (Ent.ren σ)
def sigma (ρ : Ren) (ns nc : Nat) : Ren := fun b q => if b < ns then ρ b q else (nc + (b - ns), q, 0)
theorem look_drop_map (σ : Ren) (Hs' : Heap) (ns k : Nat) : look ((Hs'.drop ns).map fun x => x.map (Ent.ren σ)) k = (look Hs' (ns + k)).map (Ent.ren σ) := by
  unfold look
  rw [List.getElem?_map, List.getElem?_drop]
  cases Hs'[ns + k]? with
  | none => rfl
  | some x => cases x <;> rfl
/-- What a call leaves, in the caller's heap: 'js' tells which of the caller's blocks are written by which block of the callee's. -/
theorem Step.back {ρ : Ren} {μ ν' : Mu} {H Hs Hs' : Heap} {w w' : World} {js : List (Nat × Nat)} (hH : HRel μ H w) (hv : View ρ H Hs) (hρ : ∀ b, b < Hs.length → ∀ q, (ρ b q).1 < H.length)
    (h : Step (μ.via ρ) Hs w ν' Hs' w')
    (hj1 : ∀ b j, js.lookup b = some j → b < H.length ∧ j < Hs.length ∧ (∀ q, ρ j q = (b, q, 0)) ∧ (∃ e, look Hs j = some e ∧ e.w = true ∧ ∀ e', look Hs' j = some e' → e'.m = e.m ∧ e'.w = true))
    (hj2 : ∀ j e, look Hs j = some e → e.w = true → js.lookup (ρ j 0).1 = some j ∧ ∀ q, (ρ j q).1 = (ρ j 0).1)
    (hj3 : ∀ k e, look Hs' (Hs.length + k) = some e → e.w = true) :
    ∃ μ', (∀ x v, VRel Hs'.length ν' x v → VRel (afterH (sigma ρ Hs.length H.length) Hs.length js H Hs').length μ' (renV (sigma ρ Hs.length H.length) x) v) ∧ Step μ H w μ' (afterH (sigma ρ Hs.length H.length) Hs.length js H Hs') w' := by
  generalize hσ : sigma ρ Hs.length H.length = σ
  let μ' : Mu := fun b q => if b < H.length then μ b q else ν' (Hs.length + (b - H.length)) q
  have hlen : (afterH σ Hs.length js H Hs').length = H.length + (Hs'.length - Hs.length) := by simp [afterH, backH_length]
  have hle := h.len
  have hsame : Same H.length μ μ' := fun b hb => by funext q; simp [μ', hb]
  have hnew : ∀ k q, μ' (H.length + k) q = ν' (Hs.length + k) q := fun k q => by
    have hk : ¬ (H.length + k < H.length) := by omega
    simp [μ', hk]
  have hren : RenOk Hs'.length ν' σ (H.length + (Hs'.length - Hs.length)) μ' := by
    refine ⟨fun b hb q => ?_, fun b hb q => ?_⟩
    · rw [← hσ]; unfold sigma
      split
      · rename_i h1; have := hρ b h1 q; omega
      · simp only; omega
    · rw [← hσ]
      by_cases h1 : b < Hs.length
      · have e1 : ν' b q = μ.via ρ b q := by rw [h.mu b h1]
        have e2 : sigma ρ Hs.length H.length b q = ρ b q := by simp [sigma, h1]
        rw [e1]
        unfold Mu.via
        rw [e2, hsame _ (hρ b h1 q)]
      · have e2 : sigma ρ Hs.length H.length b q = (H.length + (b - Hs.length), q, 0) := by simp [sigma, h1]
        rw [Mu.via_id _ e2, hnew, show Hs.length + (b - Hs.length) = b by omega]
  -- what an entry behind the call is
  have hlook : ∀ {b e}, look (afterH σ Hs.length js H Hs') b = some e →
      (b < H.length ∧ js.lookup b = none ∧ look H b = some e) ∨ (∃ j e0, b < H.length ∧ js.lookup b = some j ∧ look Hs' j = some e0 ∧ e = e0.ren σ) ∨ (∃ k e0, b = H.length + k ∧ look Hs' (Hs.length + k) = some e0 ∧ e = e0.ren σ) := by
    intro b e hb
    unfold afterH at hb
    rw [look_append, backH_length] at hb
    split at hb
    · rename_i hlt
      rw [backH_look σ Hs' js H 0 b hlt, Nat.zero_add] at hb
      cases hx : js.lookup b with
      | none => rw [hx] at hb; exact .inl ⟨hlt, rfl, hb⟩
      | some j =>
        rw [hx] at hb
        simp only at hb
        cases hy : look Hs' j with
        | none => rw [hy] at hb; cases hb
        | some e0 => rw [hy] at hb; cases hb; exact .inr (.inl ⟨j, e0, hlt, rfl, hy, rfl⟩)
    · rename_i hlt
      rw [look_drop_map] at hb
      cases hy : look Hs' (Hs.length + (b - H.length)) with
      | none => rw [hy] at hb; cases hb
      | some e0 => rw [hy] at hb; cases hb; exact .inr (.inr ⟨b - H.length, e0, by omega, hy, rfl⟩)
  -- a block of the caller that the callee may write
  have himg : ∀ {j e q}, look Hs j = some e → e.w = true → q < e.m → ∃ ec, look H (ρ j 0).1 = some ec ∧ ec.w = true ∧ q < ec.m ∧ js.lookup (ρ j 0).1 = some j ∧ (μ.via ρ j q) = μ (ρ j 0).1 q := by
    intro j e q he hw hq
    obtain ⟨h1, h2⟩ := hj2 j e he hw
    obtain ⟨_, _, h3, _⟩ := hj1 _ _ h1
    obtain ⟨ec, k1, k2, k3, _⟩ := hv.rows j e he q hq
    have e1 := h3 q
    rw [e1] at k1 k2
    exact ⟨ec, k1, (k3 hw).1, k2, h1, Mu.via_id μ e1⟩
  have hold : ∀ {b e q}, look H b = some e → q < e.m → js.lookup b = none → Lv μ b q e → w'.heap[(μ b q).g]? = w.heap[(μ b q).g]? := by
    intro b e q he hq hn hlv
    refine h.frame _ (hH.lt he hq hlv) fun j ej qj hj hwj hqj hmj heq => ?_
    obtain ⟨ec, k1, k2, k3, k4, k5⟩ := himg hj hwj hqj
    rw [k5] at heq hmj
    refine hH.inj _ ec qj b e q k1 k2 k3 hmj he hq (.inl fun hb => ?_) hlv heq
    rw [hb, hn] at k4
    cases k4
  have hmap : ∀ {b j}, js.lookup b = some j → ∀ q, ν' j q = μ b q := by
    intro b j hb q
    obtain ⟨h1, h2, h3, _⟩ := hj1 b j hb
    rw [h.mu j h2]
    exact Mu.via_id μ (h3 q)
  have hinH : ∀ {b j e0 q}, js.lookup b = some j → look Hs' j = some e0 → q < e0.m → ∃ ec, look H b = some ec ∧ ec.w = true ∧ q < ec.m ∧ e0.w = true := by
    intro b j e0 q hb he hq
    obtain ⟨h1, h2, h3, e, h4, h5, h6⟩ := hj1 b j hb
    obtain ⟨g1, g2⟩ := h6 e0 he
    obtain ⟨ec, k1, k2, k3, k4, k5⟩ := himg h4 h5 (q := q) (by omega)
    have : (ρ j 0).1 = b := by rw [h3 0]
    rw [this] at k1
    exact ⟨ec, k1, k2, k3, g2⟩
  refine ⟨μ', fun x v hx => by rw [hlen]; exact renV_ok hren hx, ?_⟩
  have hfresh : ∀ {k e0 q}, look Hs' (Hs.length + k) = some e0 → e0.w = true → q < e0.m → (ν' (Hs.length + k) q).m ≠ some 0 → w.heap.size ≤ (ν' (Hs.length + k) q).g ∨ ∃ b ec q0, look H b = some ec ∧ ec.w = true ∧ q0 < ec.m ∧ (μ b q0).m ≠ some 0 ∧ (∃ j, js.lookup b = some j) ∧ (μ b q0).g = (ν' (Hs.length + k) q).g := by
    intro k e0 q he hw hq hm
    rcases h.fresh _ e0 q he hw hq hm with hf | ⟨b0, eb, q0, f1, f2, f3, f5, f4⟩
    · exact .inl hf
    · obtain ⟨ec, k1, k2, k3, k4, k5⟩ := himg f1 f2 f3
      exact .inr ⟨_, ec, q0, k1, k2, k3, by rw [← k5]; exact f5, ⟨b0, k4⟩, by rw [← k5]; exact f4⟩
  have lvR : ∀ {τ : Ren} {b j q : Nat} {x : Ent}, μ' b q = ν' j q → Lv μ' b q (x.ren τ) → Lv ν' j q x := by
    intro τ b j q x he hl
    unfold Lv at hl ⊢
    rwa [Ent.ren_w, Ent.ren_row, Row.ren_n, he] at hl
  refine ⟨h.os, h.tape, h.output, h.size, fun k hk hn => h.frame k hk fun j e q hj hw hq hm heq => ?_, hsame, by rw [hlen]; omega, ⟨?_, ?_, ?_⟩, ?_⟩
  · obtain ⟨ec, k1, k2, k3, k4, k5⟩ := himg hj hw hq
    exact hn _ ec q k1 k2 k3 (by rw [← k5]; exact hm) (by rw [← k5]; exact heq)
  · intro b e hb q hq
    rw [hlen]
    rcases hlook hb with ⟨h1, h2, h3⟩ | ⟨j, e0, h1, h2, h3, rfl⟩ | ⟨k, e0, rfl, h3, rfl⟩
    · rw [hsame b h1]
      exact (hH.rows b e h3 q hq).same hsame (by omega) (fun hn => hold h3 hq h2 (.inr hn))
    · rw [Ent.ren_m] at hq
      rw [hsame b h1, Ent.ren_row]
      have := (h.hrel.rows j e0 h3 q hq).ren hren
      rwa [hmap h2 q] at this
    · rw [Ent.ren_m] at hq
      rw [hnew, Ent.ren_row]
      exact (h.hrel.rows _ e0 h3 q hq).ren hren
  · intro b e hb hw q hq
    rcases hlook hb with ⟨h1, h2, h3⟩ | ⟨j, e0, h1, h2, h3, rfl⟩ | ⟨k, e0, rfl, h3, rfl⟩
    · rw [hsame b h1]
      obtain ⟨m, o2, o4, o3⟩ := hH.own b e h3 hw q hq
      refine ⟨m, o2, o4, fun h0 => ?_⟩
      rw [hold h3 hq h2 (.inl ⟨hw, by rw [o2]; intro h; cases h; omega⟩)]
      exact o3 h0
    · rw [Ent.ren_m] at hq
      rw [Ent.ren_w] at hw
      rw [hsame b h1, ← hmap h2 q, Ent.ren_row, Row.ren_n]
      exact h.hrel.own j e0 h3 hw q hq
    · rw [Ent.ren_m] at hq
      rw [Ent.ren_w] at hw
      rw [hnew, Ent.ren_row, Row.ren_n]
      exact h.hrel.own _ e0 h3 hw q hq
  · intro b1 e1 q1 b2 e2 q2 hb1 hw1 hq1 hm1 hb2 hq2 hne hlv
    rcases hlook hb1 with ⟨a1, a2, a3⟩ | ⟨j1, x1, a1, a2, a3, rfl⟩ | ⟨k1, x1, rfl, a3, rfl⟩
    · rw [hsame b1 a1] at hm1
      rw [hsame b1 a1]
      rcases hlook hb2 with ⟨c1, c2, c3⟩ | ⟨j2, x2, c1, c2, c3, rfl⟩ | ⟨k2, x2, rfl, c3, rfl⟩
      · rw [hsame b2 c1]; exact hH.inj b1 e1 q1 b2 e2 q2 a3 hw1 hq1 hm1 c3 hq2 hne (by unfold Lv at hlv ⊢; rwa [hsame b2 c1] at hlv)
      · rw [Ent.ren_m] at hq2
        obtain ⟨ec, d1, d2, d3, d4⟩ := hinH c2 c3 hq2
        have hm2 := h.hrel.lv c3 hq2 d4 (lvR (by rw [hsame b2 c1, hmap c2 q2]) hlv)
        rw [hmap c2 q2] at hm2
        rw [hsame b2 c1]; exact hH.inj b1 e1 q1 b2 ec q2 a3 hw1 hq1 hm1 d1 d3 hne (.inl ⟨d2, hm2⟩)
      · rw [Ent.ren_m] at hq2
        have hm2 := h.hrel.lv c3 hq2 (hj3 _ _ c3) (lvR (by rw [hnew]) hlv)
        rw [hnew]
        rcases hfresh c3 (hj3 _ _ c3) hq2 hm2 with hf | ⟨b0, ec, q0, f1, f2, f3, f6, ⟨j0, f4⟩, f5⟩
        · have := hH.lt a3 hq1 (.inl ⟨hw1, hm1⟩); omega
        · rw [← f5]
          refine fun he => hH.inj b0 ec q0 b1 e1 q1 f1 f2 f3 f6 a3 hq1 (.inl fun hb => ?_) (.inl ⟨hw1, hm1⟩) he.symm
          rw [hb, a2] at f4
          cases f4
    · rw [Ent.ren_m] at hq1
      rw [Ent.ren_w] at hw1
      obtain ⟨ec, d1, d2, d3, d4⟩ := hinH a2 a3 hq1
      rw [hsame b1 a1] at hm1
      rcases hlook hb2 with ⟨c1, c2, c3⟩ | ⟨j2, x2, c1, c2, c3, rfl⟩ | ⟨k2, x2, rfl, c3, rfl⟩
      · rw [hsame b1 a1, hsame b2 c1]; exact hH.inj b1 ec q1 b2 e2 q2 d1 d2 d3 hm1 c3 hq2 hne (by unfold Lv at hlv ⊢; rwa [hsame b2 c1] at hlv)
      · rw [Ent.ren_m] at hq2
        obtain ⟨ec2, f1, f2, f3, f4⟩ := hinH c2 c3 hq2
        have hm2 := h.hrel.lv c3 hq2 f4 (lvR (by rw [hsame b2 c1, hmap c2 q2]) hlv)
        rw [hmap c2 q2] at hm2
        rw [hsame b1 a1, hsame b2 c1]; exact hH.inj b1 ec q1 b2 ec2 q2 d1 d2 d3 hm1 f1 f3 hne (.inl ⟨f2, hm2⟩)
      · rw [Ent.ren_m] at hq2
        rw [← hmap a2 q1] at hm1
        rw [hsame b1 a1, hnew, ← hmap a2 q1]
        obtain ⟨_, g2, _⟩ := hj1 b1 j1 a2
        exact h.hrel.inj j1 x1 q1 _ x2 q2 a3 hw1 hq1 hm1 c3 hq2 (.inl (by omega)) (lvR (by rw [hnew]) hlv)
    · rw [Ent.ren_m] at hq1
      rw [Ent.ren_w] at hw1
      rw [hnew] at hm1
      rw [hnew]
      rcases hlook hb2 with ⟨c1, c2, c3⟩ | ⟨j2, x2, c1, c2, c3, rfl⟩ | ⟨k2, x2, rfl, c3, rfl⟩
      · have hlv2 : Lv μ b2 q2 e2 := by unfold Lv at hlv ⊢; rwa [hsame b2 c1] at hlv
        rw [hsame b2 c1]
        rcases hfresh a3 hw1 hq1 hm1 with hf | ⟨b0, ec, q0, f1, f2, f3, f6, ⟨j0, f4⟩, f5⟩
        · have := hH.lt c3 hq2 hlv2; omega
        · rw [← f5]
          refine hH.inj b0 ec q0 b2 e2 q2 f1 f2 f3 f6 c3 hq2 (.inl fun hb => ?_) hlv2
          rw [hb, c2] at f4
          cases f4
      · rw [Ent.ren_m] at hq2
        have hl2 := lvR (b := b2) (j := j2) (q := q2) (by rw [hsame b2 c1, hmap c2 q2]) hlv
        rw [hsame b2 c1, ← hmap c2 q2]
        obtain ⟨_, g2, _⟩ := hj1 b2 j2 c2
        exact h.hrel.inj _ x1 q1 j2 x2 q2 a3 hw1 hq1 hm1 c3 hq2 (.inl (by omega)) hl2
      · rw [Ent.ren_m] at hq2
        have hl2 := lvR (q := q2) (by rw [hnew]) hlv
        rw [hnew]
        exact h.hrel.inj _ x1 q1 _ x2 q2 a3 hw1 hq1 hm1 c3 hq2 (by omega) hl2
  · intro b e q hb hw hq hm
    rcases hlook hb with ⟨h1, h2, h3⟩ | ⟨j, e0, h1, h2, h3, rfl⟩ | ⟨k, e0, rfl, h3, rfl⟩
    · rw [hsame b h1] at hm ⊢; exact .inr ⟨b, e, q, h3, hw, hq, hm, rfl⟩
    · rw [Ent.ren_m] at hq
      obtain ⟨ec, d1, d2, d3, d4⟩ := hinH h2 h3 hq
      rw [hsame b h1] at hm ⊢; exact .inr ⟨b, ec, q, d1, d2, d3, hm, rfl⟩
    · rw [Ent.ren_m] at hq
      rw [Ent.ren_w] at hw
      rw [hnew] at hm ⊢
      rcases hfresh h3 hw hq hm with hf | ⟨b0, ec, q0, f1, f2, f3, f6, _, f5⟩
      · exact .inl hf
      · exact .inr ⟨b0, ec, q0, f1, f2, f3, f6, f5⟩
end Go.Proofs.YtaklcaejeaiagaaE
namespace Go.Proofs.YtaklcaejeaiagaaE
open Go.RowKit
theorem enters {P : Program} {f : FuncId} {fn : Func} (hf : P.funcs[f]? = some fn) (hn : (fn.name == "runtime.NumGoroutine") = false) (hb : fn.body.isSome = true) (args : Array Value) (w : World) : (callFunc f args).run P w = .ok (.enter f args) w := by
  have hb' : fn.body.isNone = false := by cases h : fn.body <;> simp_all
  simp only [callFunc, Sem.run_bind, run_program, Result.andThen_ok, hf, hn, hb', Bool.false_eq_true, if_false, Sem.run_pure]
def capV (caps : List Nat) : List DV := caps.map fun b => .ptr b 0 0 0
theorem OpT.call {P : Program} {o : Oper} {r : List DV} {H Hs Hs' : Heap} {f : FuncId} {fn : Func} {x : Operand} {as : Array Operand} {ts : Array TypeId} {caps : List Nat} {argsS : List DV} {v : DV} {ρ : Ren} {js : List (Nat × Nat)}
    (ho : o.op = .call { callee := .value x, args := as, argTypes := ts }) (hx : ev r x = .fn f caps) (hf : P.funcs[f]? = some fn) (hn : (fn.name == "runtime.NumGoroutine") = false) (hb : fn.body.isSome = true)
    (ht : Tri P f argsS Hs v Hs') (hargs : L2 (LeV ρ Hs.length) (as.toList.map (ev r) ++ capV caps) argsS) (hv : View ρ H Hs) (hρ : ∀ b, b < Hs.length → ∀ q, (ρ b q).1 < H.length)
    (hj1 : ∀ b j, js.lookup b = some j → b < H.length ∧ j < Hs.length ∧ (∀ q, ρ j q = (b, q, 0)) ∧ (∃ e, look Hs j = some e ∧ e.w = true ∧ ∀ e', look Hs' j = some e' → e'.m = e.m ∧ e'.w = true))
    (hj2 : ∀ j e, look Hs j = some e → e.w = true → js.lookup (ρ j 0).1 = some j ∧ ∀ q, (ρ j q).1 = (ρ j 0).1)
    (hj3 : ∀ k e, look Hs' (Hs.length + k) = some e → e.w = true) :
    OpT P o r H (renV (sigma ρ Hs.length H.length) v) (afterH (sigma ρ Hs.length H.length) Hs.length js H Hs') := by
  intro μ w a hH hr
  have hxv := ev_ok hr x
  rw [hx] at hxv
  obtain ⟨hc1, hxv⟩ : (∀ b ∈ caps, b < H.length) ∧ a.eval x = .func (.func f) #[] (caps.map fun b => Value.pointer (some (μ.loc b 0 0 0))).toArray := hxv
  have hrun : (execOp a.eval o).run P w = .ok (.enter f (as.map a.eval ++ (caps.map fun b => Value.pointer (some (μ.loc b 0 0 0))).toArray)) w := by
    simp [execOp, ho, resolve, Deferred.ofValue, invoke, hxv, enters hf hn hb]
  unfold Oper.wp
  rw [hrun, Oper.upon_enter]
  have hcap : L2 (VRel H.length μ) (capV caps) (caps.map fun b => Value.pointer (some (μ.loc b 0 0 0))) := by
    refine L2.of (by simp [capV]) fun i x y hx hy => ?_
    simp only [capV, List.getElem?_map] at hx hy
    cases hb : caps[i]? with
    | none => rw [hb] at hx; cases hx
    | some b =>
      rw [hb] at hx hy
      cases hx; cases hy
      exact ⟨hc1 b (List.mem_of_getElem? hb), rfl⟩
  have hall : L2 (VRel H.length μ) (as.toList.map (ev r) ++ capV caps) (as.map a.eval ++ (caps.map fun b => Value.pointer (some (μ.loc b 0 0 0))).toArray).toList := by
    rw [Array.toList_append]
    exact (args_ok hr as).append hcap
  refine (ht (μ.via ρ) w _ (hv.hrel hH) (LeVs.ok hall hargs)).mono fun e w' he => ?_
  obtain ⟨ν', v', rfl, hv', hs⟩ := he
  obtain ⟨μ', h1, h2⟩ := Step.back hH hv hρ hs hj1 hj2 hj3
  exact ⟨μ', v', rfl, h1 v v' hv', h2⟩

/-! ### code from a state -/
structure St where
  r : List DV
  H : Heap
structure At (μ0 : Mu) (H0 : Heap) (w0 : World) (s : St) (a : Act) (w : World) : Prop where
  ex : ∃ μ, L2 (VRel s.H.length μ) s.r a.tmps.toList ∧ Step μ0 H0 w0 μ s.H w
  defers : a.defers = []
inductive Item where
  | code (c : Code)
  | ops (R : Array Oper) (l : List Oper)
  | blk (id : Nat)
  | back (J : St → Prop)
def CP (P : Program) (B : St → Act → World → Prop) : List Item → (Exit → Act → World → Prop) → Exit → Act → World → Prop
  | [], Q => Q
  | .code c :: t, Q => Exit.then (c.wp P (CP P B t Q)) (CP P B t Q)
  | .ops R l :: t, Q => Exit.then (wpList P R (CP P B t Q) l) (CP P B t Q)
  | .blk id :: t, Q => Exit.inBlock id (CP P B t Q)
  | .back J :: t, Q => Exit.then (fun a w => ∃ s, J s ∧ B s a w) (CP P B t Q)
def Fin (B : St → Act → World → Prop) (Qd : St → Prop) : Exit → Act → World → Prop
  | .normal, a, w => ∃ s, Qd s ∧ B s a w
  | .ret, a, w => ∃ s, Qd s ∧ B s a w
  | _, _, _ => False
def D (P : Program) (n0 : Nat) (t : List Item) (s : St) (Qd : St → Prop) : Prop :=
  ∀ (μ0 : Mu) (H0 : Heap) (w0 : World), H0.length = n0 → ∀ a w, At μ0 H0 w0 s a w → CP P (At μ0 H0 w0) t (Fin (At μ0 H0 w0) Qd) .normal a w
def exitT (id : Nat) : List Item → Option (List Item)
  | .blk id' :: t => if id = id' then some t else exitT id t
  | .code _ :: t => exitT id t
  | .ops _ _ :: t => exitT id t
  | .back _ :: t => exitT id t
  | [] => none
theorem CP_exit {P : Program} {B : St → Act → World → Prop} {Q : Exit → Act → World → Prop} {id : Nat} {a : Act} {w : World} : ∀ {t t' : List Item}, exitT id t = some t' → CP P B t' Q .normal a w → CP P B t Q (.exit id) a w
  | [], _, h, _ => by cases h
  | .blk id' :: t, t', h, k => by
    simp only [exitT] at h
    simp only [CP, Exit.inBlock]
    split at h
    · rename_i e; cases h; rw [if_pos e]; exact k
    · rename_i e; rw [if_neg e]; exact CP_exit h k
  | .code _ :: t, t', h, k => CP_exit (t := t) h k
  | .ops _ _ :: t, t', h, k => CP_exit (t := t) h k
  | .back _ :: t, t', h, k => CP_exit (t := t) h k
theorem CP_ret {P : Program} {B : St → Act → World → Prop} {Q : Exit → Act → World → Prop} {a : Act} {w : World} (k : Q .ret a w) : ∀ (t : List Item), CP P B t Q .ret a w
  | [] => k
  | .blk _ :: t => CP_ret k t
  | .code _ :: t => CP_ret k t
  | .ops _ _ :: t => CP_ret k t
  | .back _ :: t => CP_ret k t
section
variable {P : Program} {n0 : Nat} {t : List Item} {s : St} {Qd : St → Prop}
theorem D.nil (h : Qd s) : D P n0 [] s Qd := fun μ0 H0 w0 _ a w ha => ⟨s, h, ha⟩
theorem D.ret (h : Qd s) : D P n0 (.code .ret :: t) s Qd := fun μ0 H0 w0 _ a w ha => wp_ret (CP_ret (by exact ⟨s, h, ha⟩) t)
theorem D.skip (h : D P n0 t s Qd) : D P n0 (.code .skip :: t) s Qd := fun μ0 H0 w0 e a w ha => wp_skip (h μ0 H0 w0 e a w ha)
theorem D.label {l : Nat} (h : D P n0 t s Qd) : D P n0 (.code (.label l) :: t) s Qd := fun μ0 H0 w0 e a w ha => wp_label (h μ0 H0 w0 e a w ha)
theorem D.seq {x y : Code} (h : D P n0 (.code x :: .code y :: t) s Qd) : D P n0 (.code (.seq x y) :: t) s Qd := fun μ0 H0 w0 e a w ha => wp_seq (h μ0 H0 w0 e a w ha)
theorem D.block {id : Nat} {x : Code} (h : D P n0 (.code x :: .blk id :: t) s Qd) : D P n0 (.code (.block id x) :: t) s Qd := fun μ0 H0 w0 e a w ha => wp_block (h μ0 H0 w0 e a w ha)
theorem D.blk {id : Nat} (h : D P n0 t s Qd) : D P n0 (.blk id :: t) s Qd := h
theorem D.exit {id : Nat} {t' : List Item} (ht : exitT id t = some t') (h : D P n0 t' s Qd) : D P n0 (.code (.exit id) :: t) s Qd := fun μ0 H0 w0 e a w ha => wp_exit (CP_exit ht (h μ0 H0 w0 e a w ha))
theorem D.cond {c : Operand} {x y : Code} {b : Bool} (hc : ev s.r c = .bool b) (h1 : b = true → D P n0 (.code x :: t) s Qd) (h2 : b = false → D P n0 (.code y :: t) s Qd) : D P n0 (.code (.cond c x y) :: t) s Qd := by
  intro μ0 H0 w0 e a w ha
  obtain ⟨μ, hr, hs⟩ := ha.ex
  have hv := ev_ok hr c
  rw [hc] at hv
  have hv : a.eval c = .bool b := hv
  cases b with
  | true => exact wp_cond_true hv (h1 rfl μ0 H0 w0 e a w ha)
  | false => exact wp_cond_false hv (h2 rfl μ0 H0 w0 e a w ha)
theorem D.region {id : Nat} {R : Array Oper} (h : D P n0 (.ops R R.toList :: t) s Qd) : D P n0 (.code (.region id R false) :: t) s Qd := fun μ0 H0 w0 e a w ha => wp_region_list (h μ0 H0 w0 e a w ha)
theorem D.opsNil {R : Array Oper} (h : D P n0 t s Qd) : D P n0 (.ops R [] :: t) s Qd := fun μ0 H0 w0 e a w ha => h μ0 H0 w0 e a w ha
theorem At.put {μ0 μ' : Mu} {H0 H' : Heap} {w0 w w' : World} {s : St} {a : Act} (ha : At μ0 H0 w0 s a w) {μ : Mu} (hr : L2 (VRel s.H.length μ) s.r a.tmps.toList) (hs : Step μ0 H0 w0 μ s.H w) (k : Step μ s.H w μ' H' w') {v : DV} {v' : Value} (hv : VRel H'.length μ' v v') (dst : Option Tmp) :
    At μ0 H0 w0 ⟨put s.r dst v, H'⟩ (a.put dst v') w' := by
  refine ⟨⟨μ', ?_, hs.trans k⟩, by rw [put_defers]; exact ha.defers⟩
  exact put_ok (hr.mono fun x y h => h.same k.mu k.len) hv dst
theorem D.op {R : Array Oper} {o : Oper} {l : List Oper} {v : DV} {H' : Heap} (hg : o.guard = none) (ho : OpT P o s.r s.H v H') (h : D P n0 (.ops R l :: t) ⟨put s.r o.dst v, H'⟩ Qd) : D P n0 (.ops R (o :: l) :: t) s Qd := by
  intro μ0 H0 w0 e a w ha
  obtain ⟨μ, hr, hs⟩ := ha.ex
  refine wpList_plain hg fun K hK => ?_
  refine Oper.wp_q (Go.Oper.wp_mono (fun a' w' hk => ?_) (ho μ w a hs.hrel hr))
  obtain ⟨μ', v', rfl, hv, hst⟩ := hk
  exact hK _ _ (h μ0 H0 w0 e _ _ (ha.put hr hs hst hv o.dst))
/-- What a guard reads. -/
def yield (R : Array Oper) (r : List DV) (j : Nat) : Option DV := ((R[j]?).bind (·.dst)).map fun d => r.getD d (.tup [])
theorem yielded_ok {n : Nat} {μ : Mu} {r : List DV} {a : Act} (hr : L2 (VRel n μ) r a.tmps.toList) {R : Array Oper} {j : Nat} {x : DV} (h : yield R r j = some x) :
    (∀ b, x = .bool b → yielded R a.tmps j = some b) ∧ (x = .tup [] → yielded R a.tmps j = none) := by
  unfold yield at h
  cases hd : (R[j]?).bind (·.dst) with
  | none => rw [hd] at h; cases h
  | some d =>
    rw [hd] at h
    simp only [Option.map_some, Option.some.injEq] at h
    have hv := ev_ok hr (.tmp d)
    simp only [ev, h, Act.eval] at hv
    unfold yielded
    rw [hd]
    simp only [Option.bind_some]
    refine ⟨fun b hb => ?_, fun hb => ?_⟩
    · subst hb
      have hv : a.tmps.getD d undef = .bool b := hv
      rw [Array.getD_eq_getD_getElem?] at hv
      cases ht : a.tmps[d]? with
      | none => rw [ht] at hv; cases hv
      | some u => rw [ht] at hv; simp only [Option.getD_some] at hv; subst hv; rfl
    · subst hb
      obtain ⟨vs, hv, hl⟩ := hv
      have : vs = #[] := by
        have := hl.length
        exact Array.eq_empty_of_size_eq_zero (by simpa using this.symm)
      subst this
      rw [Array.getD_eq_getD_getElem?] at hv
      cases ht : a.tmps[d]? with
      | none => rfl
      | some u => rw [ht] at hv; simp only [Option.getD_some] at hv; subst hv; rfl
theorem D.opGuard {R : Array Oper} {o : Oper} {l : List Oper} {j : Nat} {want b : Bool} (hg : o.guard = some (j, want)) (hy : yield R s.r j = some (.bool b))
    (h1 : b = want → D P n0 (.ops R ({ o with guard := none } :: l) :: t) s Qd) (h2 : b ≠ want → D P n0 (.ops R l :: t) ⟨put s.r o.dst (.tup []), s.H⟩ Qd) : D P n0 (.ops R (o :: l) :: t) s Qd := by
  intro μ0 H0 w0 e a w ha
  obtain ⟨μ, hr, hs⟩ := ha.ex
  have hyv := (yielded_ok hr hy).1 b rfl
  show wpList P R _ (o :: l) a w
  unfold wpList
  by_cases hb : b = want
  · have hw : Region.wanted o (yielded R a.tmps) = true := by simp [Region.wanted, hg, hyv, hb]
    rw [if_pos hw]
    have := h1 hb μ0 H0 w0 e a w ha
    have this : wpList P R _ ({ o with guard := none } :: l) a w := this
    unfold wpList at this
    rw [if_pos (by simp [Region.wanted])] at this
    exact this
  · have hw : Region.wanted o (yielded R a.tmps) = false := by simp [Region.wanted, hg, hyv, hb]
    rw [hw]
    exact h2 hb μ0 H0 w0 e _ _ (ha.put hr hs (Step.refl hs.hrel) (undef_ok _ _) o.dst)
theorem D.opGuardUndef {R : Array Oper} {o : Oper} {l : List Oper} {j : Nat} {want : Bool} (hg : o.guard = some (j, want)) (hy : yield R s.r j = some (.tup []))
    (h2 : D P n0 (.ops R l :: t) ⟨put s.r o.dst (.tup []), s.H⟩ Qd) : D P n0 (.ops R (o :: l) :: t) s Qd := by
  intro μ0 H0 w0 e a w ha
  obtain ⟨μ, hr, hs⟩ := ha.ex
  have hyv := (yielded_ok hr hy).2 rfl
  show wpList P R _ (o :: l) a w
  unfold wpList
  have hw : Region.wanted o (yielded R a.tmps) = false := by simp [Region.wanted, hg, hyv]
  rw [hw]
  exact h2 μ0 H0 w0 e _ _ (ha.put hr hs (Step.refl hs.hrel) (undef_ok _ _) o.dst)
theorem D.back {J : St → Prop} (h : J s) : D P n0 (.back J :: t) s Qd := fun μ0 H0 w0 e a w ha => ⟨s, h, ha⟩
end
theorem wp_loop_rel {P : Program} {c : Code} {Q : Exit → Act → World → Prop} (I : Nat → Act → World → Prop)
    (round : ∀ n a w, I n a w → c.wp P (Exit.then (fun a' w' => ∃ n', n' < n ∧ I n' a' w') Q) a w) {n : Nat} {a : Act} {w : World} (h : I n a w) : (Code.loop c).wp P Q a w := by
  intro b k cs
  have key : ∀ n a w, I n a w → ∃ e a' w', Q e a' w' ∧ Arrives P (lone (b.at a (.code c :: .inLoop c :: k)) cs w) b k cs e a' w' := by
    intro n
    induction n using Nat.strongRecOn with
    | _ n ih =>
      intro a w hI
      obtain ⟨e, a₁, w₁, hq, harr⟩ := round n a w hI b (.inLoop c :: k) cs
      cases e with
      | normal =>
        obtain ⟨n', hlt, hI₁⟩ := hq
        obtain ⟨e₂, a₂, w₂, hq₂, harr₂⟩ := ih n' hlt a₁ w₁ hI₁
        exact ⟨e₂, a₂, w₂, hq₂, .of_steps (Steps.trans harr (.one step_inLoop)) harr₂⟩
      | exit id => exact ⟨_, a₁, w₁, hq, .pass (x := .inLoop c) rfl (fun _ _ => .inl (by simp)) harr⟩
      | goto l => exact ⟨_, a₁, w₁, hq, .pass (x := .inLoop c) rfl (fun _ _ => .inl (by simp)) harr⟩
      | ret => exact ⟨_, a₁, w₁, hq, .pass (x := .inLoop c) rfl (fun _ _ => .inl (by simp)) harr⟩
      | panic ch => exact ⟨_, a₁, w₁, hq, .pass (x := .inLoop c) rfl (fun _ _ => .inl (by simp)) harr⟩
      | outgrown => exact ⟨_, a₁, w₁, hq, .pass (x := .inLoop c) rfl (fun _ _ => .inl (by simp)) harr⟩
  obtain ⟨e, a', w', hq, harr⟩ := key n a w h
  exact ⟨e, a', w', hq, .of_steps (.one step_loop) harr⟩
/-- A loop: 'S i' is the state at its head; each round lowers 'm'. -/
theorem D.loop {P : Program} {n0 : Nat} {t : List Item} {Qd : St → Prop} {c : Code} {ι : Type} (S : ι → St) (m : ι → Nat) (i : ι)
    (round : ∀ i, D P n0 (.code c :: .back (fun s' => ∃ i', s' = S i' ∧ m i' < m i) :: t) (S i) Qd) : D P n0 (.code (.loop c) :: t) (S i) Qd := by
  intro μ0 H0 w0 e a w ha
  refine wp_loop_rel (fun n a w => ∃ i, m i = n ∧ At μ0 H0 w0 (S i) a w) ?_ ⟨i, rfl, ha⟩
  rintro n a w ⟨i, rfl, ha⟩
  have := round i μ0 H0 w0 e a w ha
  refine wp_mono (show c.wp P (CP P (At μ0 H0 w0) (.back _ :: t) _) a w from this) fun e a w hq => ?_
  cases e <;> try exact hq
  obtain ⟨s, ⟨i', rfl, hlt⟩, hs⟩ := hq
  exact ⟨m i', hlt, i', rfl, hs⟩
/-- Less is known from here on. -/
theorem D.weak {P : Program} {n0 : Nat} {t : List Item} {Qd : St → Prop} {s s' : St} (ρ : Ren) (hr : L2 (LeV ρ s'.H.length) s.r s'.r) (hv : View ρ s.H s'.H) (hid : ∀ b, b < n0 → ∀ q, ρ b q = (b, q, 0)) (hlen : n0 ≤ s'.H.length)
    (h : D P n0 t s' Qd) : D P n0 t s Qd := by
  intro μ0 H0 w0 e a w ha
  obtain ⟨μ, h1, h2⟩ := ha.ex
  refine h μ0 H0 w0 e a w ⟨⟨μ.via ρ, LeVs.ok h1 hr, h2.view hv (fun b hb => hid b (by omega)) (by omega)⟩, ha.defers⟩

/-! ### a function's body -/
def resL (T : Tab) (H : Heap) : List ResultVar → List DV → Option (Prop × List DV)
  | [], _ => some (True, [])
  | .tmp t :: l, r => (resL T H l r).map fun p => (p.1, r.getD t (.tup []) :: p.2)
  | .cell b t :: l, r => match dLoad T H t (r.getD b (.tup [])) with
    | some (q, v) => (resL T H l r).map fun p => (q ∧ p.1, v :: p.2)
    | none => none
def DV.elem : DV → Bool
  | .tup _ => false
  | _ => true
def outOf (T : Tab) (H : Heap) (rs : Array ResultVar) (r : List DV) : Option (Prop × DV) :=
  match resL T H rs.toList r with
  | some (q, [x]) => some (q, x)
  | some (q, l) => if l.all DV.elem then some (q, .tup l) else none
  | none => none
theorem VRel.elemOf {n : Nat} {μ : Mu} {x : DV} {v : Value} (h : VRel n μ x v) (hx : x.elem = true) : Elem n μ x v := by
  cases x <;> first | exact h | (simp [DV.elem] at hx; done)
def resOf (tmps : Array Value) : ResultVar → Sem Value
  | .tmp t => pure (tmps.getD t undef)
  | .cell b t => do loadVar t (← asAddr (tmps.getD b undef))
theorem results_eq (fn : Func) (tmps : Array Value) : results fn tmps = (do let vs ← fn.results.mapM (resOf tmps); pure (if h : vs.size = 1 then vs[0] else .tuple vs)) := by
  unfold results
  congr 1
theorem resL_ok {P : Program} {T : Tab} (hT : TOk P T) {μ : Mu} {H : Heap} {r : List DV} {a : Act} {w : World} (hH : HRel μ H w) (hr : L2 (VRel H.length μ) r a.tmps.toList) : ∀ {rs : List ResultVar} {q : Prop} {l : List DV}, resL T H rs r = some (q, l) → q →
    ∃ vs : List Value, (rs.mapM (resOf a.tmps)).run P w = Result.ok vs w ∧ L2 (VRel H.length μ) l vs
  | [], q, l, h, _ => by cases h; exact ⟨[], by simp, trivial⟩
  | .tmp t :: rs, q, l, h, hq => by
    simp only [resL] at h
    cases hl : resL T H rs r with
    | none => rw [hl] at h; cases h
    | some p =>
      obtain ⟨q0, l0⟩ := p
      rw [hl] at h
      cases h
      obtain ⟨vs, h1, h2⟩ := resL_ok hT hH hr hl hq
      refine ⟨a.tmps.getD t undef :: vs, ?_, ev_ok hr (.tmp t), h2⟩
      simp only [List.mapM_cons, Sem.run_bind, resOf, Sem.run_pure, Result.andThen_ok, h1]
  | .cell b t :: rs, q, l, h, hq => by
    simp only [resL] at h
    cases hd : dLoad T H t (r.getD b (.tup [])) with
    | none => rw [hd] at h; cases h
    | some p0 =>
      obtain ⟨q1, v1⟩ := p0
      rw [hd] at h
      simp only at h
      cases hl : resL T H rs r with
      | none => rw [hl] at h; cases h
      | some p =>
        obtain ⟨q0, l0⟩ := p
        rw [hl] at h
        cases h
        obtain ⟨vs, h1, h2⟩ := resL_ok hT hH hr hl hq.2
        have hb := ev_ok hr (.tmp b)
        obtain ⟨u, g1, g2⟩ := dLoad_ok (P := P) hT hH hd hq.1 hb
        have hp : ∃ ad, a.eval (.tmp b) = .pointer (some ad) := by
          unfold dLoad at hd
          split at hd
          · rename_i heq
            have heq : ev r (.tmp b) = _ := heq
            rw [heq] at hb
            exact ⟨_, hb.2⟩
          · cases hd
        obtain ⟨ad, hp⟩ := hp
        rw [hp] at g1
        have hp' : a.tmps.getD b undef = .pointer (some ad) := hp
        refine ⟨u :: vs, ?_, g2, h2⟩
        simp only [Instr.loadAt, Instr.sureAddr, Sem.run_bind, Sem.run_pure, Result.andThen_ok] at g1
        simp only [List.mapM_cons, Sem.run_bind, resOf, hp', asAddr, Sem.run_pure, Result.andThen_ok, g1, h1]
theorem outOf_ok {P : Program} {T : Tab} (hT : TOk P T) {fn : Func} {μ : Mu} {H : Heap} {r : List DV} {a : Act} {w : World} {q : Prop} {x : DV} (hH : HRel μ H w) (hr : L2 (VRel H.length μ) r a.tmps.toList) (h : outOf T H fn.results r = some (q, x)) (hq : q) : ∃ v, (results fn a.tmps).run P w = .ok v w ∧ VRel H.length μ x v := by
  unfold outOf at h
  have key : ∀ q l, resL T H fn.results.toList r = some (q, l) → q → ∃ vs : Array Value, (results fn a.tmps).run P w = .ok (if h : vs.size = 1 then vs[0] else .tuple vs) w ∧ L2 (VRel H.length μ) l vs.toList := by
    intro q l hl hq
    obtain ⟨vs, h1, h2⟩ := resL_ok (P := P) hT hH hr hl hq
    refine ⟨vs.toArray, ?_, by simpa using h2⟩
    rw [results_eq, Array.mapM_eq_mapM_toList]
    simp only [Sem.run_bind, Sem.run_map, h1, Result.andThen_ok, Sem.run_pure]
  split at h
  · rename_i q0 y hl
    cases h
    obtain ⟨vs, h1, h2⟩ := key _ _ hl hq
    obtain ⟨vs⟩ := vs
    match vs, h2 with
    | [u], h2 => exact ⟨u, by simpa using h1, h2.1⟩
  · rename_i q0 l hne hl
    split at h
    case isFalse => cases h
    rename_i hall
    cases h
    obtain ⟨vs, h1, h2⟩ := key _ _ hl hq
    refine ⟨.tuple vs, ?_, vs, rfl, ?_⟩
    · rw [h1, dif_neg]
      intro hs
      have := h2.length
      match l, this with
      | [y], _ => exact hne y rfl
      | [], e => simp at e; omega
      | _ :: _ :: _, e => simp at e; omega
    · refine L2.of h2.length fun i x y hx hy => ?_
      obtain ⟨y', hy', hr⟩ := h2.get hx
      rw [hy] at hy'
      cases hy'
      exact hr.elemOf (List.all_eq_true.1 hall x (List.mem_of_getElem? hx))
  · cases h
def Out (T : Tab) (n0 : Nat) (rs : Array ResultVar) (v : DV) (H' : Heap) (s : St) : Prop :=
  ∃ (ρ : Ren) (q : Prop) (x : DV), outOf T s.H rs s.r = some (q, x) ∧ q ∧ LeV ρ H'.length x v ∧ View ρ s.H H' ∧ (∀ b, b < n0 → ∀ q, ρ b q = (b, q, 0)) ∧ n0 ≤ H'.length
theorem Tri.of {P : Program} {T : Tab} (hT : TOk P T) {f : FuncId} {fn : Func} {c : Code} {args : List DV} {H H' : Heap} {v : DV} (hf : P.funcs[f]? = some fn) (hb : fn.body = some c)
    (h : D P H.length [.code c] ⟨args ++ List.replicate (fn.ntmps - args.length) (.tup []), H⟩ (Out T H.length fn.results v H')) : Tri P f args H v H' := by
  intro μ w cargs hH ha
  refine calls_of_wp hf hb ?_
  have hlen := ha.length
  have hr : L2 (VRel H.length μ) (args ++ List.replicate (fn.ntmps - args.length) (.tup [])) (cargs ++ Array.replicate (fn.ntmps - cargs.size) undef).toList := by
    rw [Array.toList_append, Array.toList_replicate, hlen, Array.length_toList]
    exact ha.append (L2.replicate (undef_ok _ _) _)
  have hd := h μ H w rfl ⟨cargs ++ Array.replicate (fn.ntmps - cargs.size) undef, []⟩ w ⟨⟨μ, hr, Step.refl hH⟩, rfl⟩
  refine wp_mono (show c.wp P (Fin (At μ H w) (Out T H.length fn.results v H')) _ w from hd) fun e a w' hq => ?_
  have fin : (∃ s, Out T H.length fn.results v H' s ∧ At μ H w s a w') → a.defers = [] ∧ ∃ v0, (results fn a.tmps).run P w' = .ok v0 w' ∧ ∃ μ' v', Ending.returned v0 = .returned v' ∧ VRel H'.length μ' v v' ∧ Step μ H w μ' H' w' := by
    rintro ⟨s, ⟨ρ, q, x, h1, hq, h2, h3, h4, h5⟩, hs⟩
    obtain ⟨μ1, k1, k2⟩ := hs.ex
    obtain ⟨v0, g1, g2⟩ := outOf_ok (P := P) hT k2.hrel k1 h1 hq
    exact ⟨hs.defers, v0, g1, μ1.via ρ, v0, rfl, LeV.ok g2 h2, k2.view h3 h4 h5⟩
  cases e with
  | normal => exact fin hq
  | ret => exact fin hq
  | _ => exact hq.elim
end Go.Proofs.YtaklcaejeaiagaaE
namespace Go.Proofs.YtaklcaejeaiagaaE
open Go.RowKit
/-! ### as far as it goes by itself -/
def sel (b : Bool) (A B : Prop) : Prop := (b = true → A) ∧ (b = false → B)
theorem sel_true (A B : Prop) : sel true A B = A := by simp [sel]
theorem sel_false (A B : Prop) : sel false A B = B := by simp [sel]
theorem sel_same (b : Bool) (X : Prop) : sel b X X = X := by cases b <;> simp [sel]
def told (r : List DV) (c : Operand) (b : Bool) : List DV :=
  match c with
  | .tmp d => r.set d (.bool b)
  | _ => r
def run (P : Program) (n0 : Nat) (Qd : St → Prop) (T : Tab) : Nat → List Item → St → Prop
  | 0, t, s => D P n0 t s Qd
  | n + 1, [], s => Qd s
  | n + 1, .blk _ :: t, s => run P n0 Qd T n t s
  | n + 1, .back J :: t, s => J s
  | n + 1, .ops R [] :: t, s => run P n0 Qd T n t s
  | n + 1, .ops R (o :: l) :: t, s =>
    match o.guard with
    | none =>
      match dop T o.op s.r s.H with
      | some (q, v, H') => q ∧ (run P n0 Qd T n (.ops R l :: t) ⟨put s.r o.dst v, H'⟩)
      | none => D P n0 (.ops R (o :: l) :: t) s Qd
    | some (j, want) =>
      match yield R s.r j with
      | some (.bool b) => sel b
          (if want then (match (R[j]?).bind (·.dst) with | some d => run P n0 Qd T n (.ops R ({ o with guard := none } :: l) :: t) ⟨s.r.set d (.bool true), s.H⟩ | none => D P n0 (.ops R (o :: l) :: t) s Qd)
            else (match (R[j]?).bind (·.dst) with | some d => run P n0 Qd T n (.ops R l :: t) ⟨put (s.r.set d (.bool true)) o.dst (.tup []), s.H⟩ | none => D P n0 (.ops R (o :: l) :: t) s Qd))
          (if want then (match (R[j]?).bind (·.dst) with | some d => run P n0 Qd T n (.ops R l :: t) ⟨put (s.r.set d (.bool false)) o.dst (.tup []), s.H⟩ | none => D P n0 (.ops R (o :: l) :: t) s Qd)
            else (match (R[j]?).bind (·.dst) with | some d => run P n0 Qd T n (.ops R ({ o with guard := none } :: l) :: t) ⟨s.r.set d (.bool false), s.H⟩ | none => D P n0 (.ops R (o :: l) :: t) s Qd))
      | some (.tup []) => run P n0 Qd T n (.ops R l :: t) ⟨put s.r o.dst (.tup []), s.H⟩
      | _ => D P n0 (.ops R (o :: l) :: t) s Qd
  | n + 1, .code .skip :: t, s => run P n0 Qd T n t s
  | n + 1, .code (.label _) :: t, s => run P n0 Qd T n t s
  | n + 1, .code (.seq a b) :: t, s => run P n0 Qd T n (.code a :: .code b :: t) s
  | n + 1, .code (.block id c) :: t, s => run P n0 Qd T n (.code c :: .blk id :: t) s
  | n + 1, .code (.cond c a b) :: t, s =>
    match ev s.r c with
    | .bool x => sel x (run P n0 Qd T n (.code a :: t) ⟨told s.r c true, s.H⟩) (run P n0 Qd T n (.code b :: t) ⟨told s.r c false, s.H⟩)
    | _ => D P n0 (.code (.cond c a b) :: t) s Qd
  | n + 1, .code (.exit id) :: t, s =>
    match exitT id t with
    | some t' => run P n0 Qd T n t' s
    | none => D P n0 (.code (.exit id) :: t) s Qd
  | n + 1, .code .ret :: t, s => Qd s
  | n + 1, .code (.region id R false) :: t, s => run P n0 Qd T n (.ops R R.toList :: t) s
  | n + 1, .code (.region id R true) :: t, s => D P n0 (.code (.region id R true) :: t) s Qd
  | n + 1, .code (.loop c) :: t, s => D P n0 (.code (.loop c) :: t) s Qd
  | n + 1, .code (.scope c) :: t, s => D P n0 (.code (.scope c) :: t) s Qd
  | n + 1, .code (.goto c) :: t, s => D P n0 (.code (.goto c) :: t) s Qd
  | n + 1, .code (.rangeFunc a b c d) :: t, s => D P n0 (.code (.rangeFunc a b c d) :: t) s Qd
  | n + 1, .code (.refuse c) :: t, s => D P n0 (.code (.refuse c) :: t) s Qd
section
variable {P : Program} {n0 : Nat} {Qd : St → Prop}
/-- A register that reads as a bool may be told. -/
theorem D.tell {t : List Item} {s : St} {d : Nat} {b : Bool} (h : s.r.getD d (.tup []) = .bool b) (k : D P n0 t ⟨s.r.set d (.bool b), s.H⟩ Qd) : D P n0 t s Qd := by
  intro μ0 H0 w0 e a w ha
  obtain ⟨μ, h1, h2⟩ := ha.ex
  refine k μ0 H0 w0 e a w ⟨⟨μ, ?_, h2⟩, ha.defers⟩
  rw [List.getD_eq_getElem?_getD] at h
  have : s.r.set d (.bool b) = s.r := by
    cases hd : s.r[d]? with
    | none => rw [hd] at h; cases h
    | some x =>
      rw [hd] at h
      simp only [Option.getD_some] at h
      subst h
      apply List.ext_getElem?
      intro i
      rw [List.getElem?_set]
      split
      · rename_i hi
        subst hi
        split
        · exact hd.symm
        · rename_i hl; rw [List.getElem?_eq_none (by omega)]
      · rfl
  simp only [this]
  exact h1
theorem D.telc {t : List Item} {s : St} {c : Operand} {b : Bool} (h : ev s.r c = .bool b) (k : D P n0 t ⟨told s.r c b, s.H⟩ Qd) : D P n0 t s Qd := by
  cases c with
  | tmp d => exact D.tell h k
  | _ => exact k
theorem run_ok {T : Tab} (hT : TOk P T) : ∀ (n : Nat) (t : List Item) (s : St), run P n0 Qd T n t s → D P n0 t s Qd
  | 0, t, s, h => h
  | n + 1, [], s, h => D.nil h
  | n + 1, .blk _ :: t, s, h => D.blk (run_ok hT n t s h)
  | n + 1, .back J :: t, s, h => D.back h
  | n + 1, .ops R [] :: t, s, h => D.opsNil (run_ok hT n t s h)
  | n + 1, .ops R (o :: l) :: t, s, h => by
    simp only [run] at h
    split at h
    · rename_i hg
      split at h
      · rename_i q v H' hd
        exact D.op hg (dop_ok hT hd h.1) (run_ok hT n _ _ h.2)
      · exact h
    · rename_i j want hg
      split at h
      · rename_i b hy
        have hy' := hy
        unfold yield at hy'
        cases hd : (R[j]?).bind (·.dst) with
        | none => rw [hd] at hy'; cases hy'
        | some d =>
          rw [hd] at hy' h
          simp only [Option.map_some, Option.some.injEq] at hy'
          simp only at h
          refine D.opGuard hg hy (fun hb => ?_) (fun hb => ?_)
          · subst hb
            cases b with
            | true =>
              have := h.1 rfl
              simp only [if_true] at this
              exact D.tell hy' (run_ok hT n _ _ this)
            | false =>
              have := h.2 rfl
              simp only [Bool.false_eq_true, if_false] at this
              exact D.tell hy' (run_ok hT n _ _ this)
          · have hset : ∀ b', b = b' → (put s.r o.dst (.tup [])) = put s.r o.dst (.tup []) := fun _ _ => rfl
            have key : ∀ {K : List Item} {st : St}, s.r.set d (.bool b) = s.r := by
              intro _ _
              rw [List.getD_eq_getElem?_getD] at hy'
              cases hx : s.r[d]? with
              | none => rw [hx] at hy'; cases hy'
              | some x =>
                rw [hx] at hy'
                simp only [Option.getD_some] at hy'
                subst hy'
                apply List.ext_getElem?
                intro i
                rw [List.getElem?_set]
                split
                · rename_i hi
                  subst hi
                  split
                  · exact hx.symm
                  · rename_i hl; rw [List.getElem?_eq_none (by omega)]
                · rfl
            have key := @key [] s
            cases b with
            | true =>
              cases want with
              | true => exact absurd rfl hb
              | false =>
                have := h.1 rfl
                simp only [Bool.false_eq_true, if_false] at this
                rw [key] at this
                exact run_ok hT n _ _ this
            | false =>
              cases want with
              | false => exact absurd rfl hb
              | true =>
                have := h.2 rfl
                simp only [if_true] at this
                rw [key] at this
                exact run_ok hT n _ _ this
      · rename_i hy
        exact D.opGuardUndef hg hy (run_ok hT n _ _ h)
      · exact h
  | n + 1, .code .skip :: t, s, h => D.skip (run_ok hT n t s h)
  | n + 1, .code (.label _) :: t, s, h => D.label (run_ok hT n t s h)
  | n + 1, .code (.seq a b) :: t, s, h => D.seq (run_ok hT n _ s h)
  | n + 1, .code (.block id c) :: t, s, h => D.block (run_ok hT n _ s h)
  | n + 1, .code (.cond c a b) :: t, s, h => by
    simp only [run] at h
    split at h
    · rename_i x hx
      refine D.cond hx (fun e => ?_) (fun e => ?_)
      · subst e; exact D.telc hx (run_ok hT n _ _ (h.1 rfl))
      · subst e; exact D.telc hx (run_ok hT n _ _ (h.2 rfl))
    · exact h
  | n + 1, .code (.exit id) :: t, s, h => by
    simp only [run] at h
    split at h
    · rename_i t' ht
      exact D.exit ht (run_ok hT n _ s h)
    · exact h
  | n + 1, .code .ret :: t, s, h => D.ret h
  | n + 1, .code (.region id R false) :: t, s, h => D.region (run_ok hT n _ s h)
  | n + 1, .code (.region id R true) :: t, s, h => h
  | n + 1, .code (.loop c) :: t, s, h => h
  | n + 1, .code (.scope c) :: t, s, h => h
  | n + 1, .code (.goto c) :: t, s, h => h
  | n + 1, .code (.rangeFunc a b c d) :: t, s, h => h
  | n + 1, .code (.refuse c) :: t, s, h => h
end
section
variable {P : Program} {n0 : Nat} {Qd : St → Prop} {T : Tab} {n : Nat} {t : List Item} {s : St}
theorem run_nil : run P n0 Qd T (n + 1) [] s = Qd s := by simp only [run]
theorem run_blk {i : Nat} : run P n0 Qd T (n + 1) (.blk i :: t) s = run P n0 Qd T n t s := by simp only [run]
theorem run_back {J : St → Prop} : run P n0 Qd T (n + 1) (.back J :: t) s = J s := by simp only [run]
theorem run_opsNil {R : Array Oper} : run P n0 Qd T (n + 1) (.ops R [] :: t) s = run P n0 Qd T n t s := by simp only [run]
theorem run_op {R : Array Oper} {l : List Oper} {d : Option Tmp} {op : Op} {ty : TypeId} {pos : String} {after : Array Edge} {r : List DV} {H : Heap} :
    run P n0 Qd T (n + 1) (.ops R (⟨d, op, ty, pos, after, none⟩ :: l) :: t) ⟨r, H⟩ = (match dop T op r H with
      | some (q, v, H') => q ∧ (run P n0 Qd T n (.ops R l :: t) ⟨put r d v, H'⟩)
      | none => D P n0 (.ops R (⟨d, op, ty, pos, after, none⟩ :: l) :: t) ⟨r, H⟩ Qd) := by simp only [run]
theorem run_opT {R : Array Oper} {l : List Oper} {d : Option Tmp} {op : Op} {ty : TypeId} {pos : String} {after : Array Edge} {j : Nat} {r : List DV} {H : Heap} :
    run P n0 Qd T (n + 1) (.ops R (⟨d, op, ty, pos, after, some (j, true)⟩ :: l) :: t) ⟨r, H⟩ = (match (generalizing := false) yield R r j with
      | some (.bool b) => match (R[j]?).bind (·.dst) with
        | some e => sel b (run P n0 Qd T n (.ops R (⟨d, op, ty, pos, after, none⟩ :: l) :: t) ⟨r.set e (.bool true), H⟩) (run P n0 Qd T n (.ops R l :: t) ⟨put (r.set e (.bool false)) d (.tup []), H⟩)
        | none => D P n0 (.ops R (⟨d, op, ty, pos, after, some (j, true)⟩ :: l) :: t) ⟨r, H⟩ Qd
      | some (.tup []) => run P n0 Qd T n (.ops R l :: t) ⟨put r d (.tup []), H⟩
      | _ => D P n0 (.ops R (⟨d, op, ty, pos, after, some (j, true)⟩ :: l) :: t) ⟨r, H⟩ Qd) := by
  simp only [run, if_true]
  split
  · split <;> first | rfl | exact sel_same _ _
  · rfl
  · rfl
theorem run_opF {R : Array Oper} {l : List Oper} {d : Option Tmp} {op : Op} {ty : TypeId} {pos : String} {after : Array Edge} {j : Nat} {r : List DV} {H : Heap} :
    run P n0 Qd T (n + 1) (.ops R (⟨d, op, ty, pos, after, some (j, false)⟩ :: l) :: t) ⟨r, H⟩ = (match (generalizing := false) yield R r j with
      | some (.bool b) => match (R[j]?).bind (·.dst) with
        | some e => sel b (run P n0 Qd T n (.ops R l :: t) ⟨put (r.set e (.bool true)) d (.tup []), H⟩) (run P n0 Qd T n (.ops R (⟨d, op, ty, pos, after, none⟩ :: l) :: t) ⟨r.set e (.bool false), H⟩)
        | none => D P n0 (.ops R (⟨d, op, ty, pos, after, some (j, false)⟩ :: l) :: t) ⟨r, H⟩ Qd
      | some (.tup []) => run P n0 Qd T n (.ops R l :: t) ⟨put r d (.tup []), H⟩
      | _ => D P n0 (.ops R (⟨d, op, ty, pos, after, some (j, false)⟩ :: l) :: t) ⟨r, H⟩ Qd) := by
  simp only [run, Bool.false_eq_true, if_false]
  split
  · split <;> first | rfl | exact sel_same _ _
  · rfl
  · rfl
theorem run_skip : run P n0 Qd T (n + 1) (.code .skip :: t) s = run P n0 Qd T n t s := by simp only [run]
theorem run_label {l : Nat} : run P n0 Qd T (n + 1) (.code (.label l) :: t) s = run P n0 Qd T n t s := by simp only [run]
theorem run_seq {a b : Code} : run P n0 Qd T (n + 1) (.code (.seq a b) :: t) s = run P n0 Qd T n (.code a :: .code b :: t) s := by simp only [run]
theorem run_block {i : Nat} {a : Code} : run P n0 Qd T (n + 1) (.code (.block i a) :: t) s = run P n0 Qd T n (.code a :: .blk i :: t) s := by simp only [run]
theorem run_cond {c : Operand} {a b : Code} {r : List DV} {H : Heap} : run P n0 Qd T (n + 1) (.code (.cond c a b) :: t) ⟨r, H⟩ = (match ev r c with
    | .bool x => sel x (run P n0 Qd T n (.code a :: t) ⟨told r c true, H⟩) (run P n0 Qd T n (.code b :: t) ⟨told r c false, H⟩)
    | _ => D P n0 (.code (.cond c a b) :: t) ⟨r, H⟩ Qd) := by simp only [run]
theorem run_exit {i : Nat} : run P n0 Qd T (n + 1) (.code (.exit i) :: t) s = (match exitT i t with
    | some t' => run P n0 Qd T n t' s
    | none => D P n0 (.code (.exit i) :: t) s Qd) := by simp only [run]
theorem run_ret : run P n0 Qd T (n + 1) (.code .ret :: t) s = Qd s := by simp only [run]
theorem run_region {i : Nat} {R : Array Oper} : run P n0 Qd T (n + 1) (.code (.region i R false) :: t) s = run P n0 Qd T n (.ops R R.toList :: t) s := by simp only [run]
theorem run_drawn {i : Nat} {R : Array Oper} : run P n0 Qd T (n + 1) (.code (.region i R true) :: t) s = D P n0 (.code (.region i R true) :: t) s Qd := by simp only [run]
theorem run_loop {a : Code} : run P n0 Qd T (n + 1) (.code (.loop a) :: t) s = D P n0 (.code (.loop a) :: t) s Qd := by simp only [run]
theorem run_scope {a : Code} : run P n0 Qd T (n + 1) (.code (.scope a) :: t) s = D P n0 (.code (.scope a) :: t) s Qd := by simp only [run]
end
end Go.Proofs.YtaklcaejeaiagaaE
