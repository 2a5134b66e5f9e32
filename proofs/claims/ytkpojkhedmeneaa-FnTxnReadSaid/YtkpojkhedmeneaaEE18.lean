/- A part of the proof of a law of the given program: the logic of runs over laid-out memory. No condition of its own. -/
import Derived.Test.YtkpojkhedmeneaaEE17
namespace Go.Proofs.YtkpojkhedmeneaaE
open Go.RowKit
def edges (R : Array Oper) (i : Nat) : List Nat := match R[i]? with | some o => (o.after.toList.filter (Region.binds .any)).map (·.on) | none => []
structure Static (R : Array Oper) (st : Nat → Stp) (H0 : Heap) (A : Nat → List Nat) (n : Nat) : Prop where
  lt : ∀ i, i < n → ∀ e ∈ edges R i, e < i
  anc : ∀ i, i < n → ∀ k ∈ A i, ∃ e ∈ edges R i, k = e ∨ k ∈ A e
  pair : ∀ m k, m < k → k < n → m ∈ A k ∨ (Apart R st H0 m k ∧ Apart R st H0 k m)
section
variable {P : Program} {R : Array Oper} {st : Nat → Stp} {r0 : List DV} {H0 : Heap} {E : Nat → Bool} {n : Nat} {A : Nat → List Nat}
def Closed (R : Array Oper) (n : Nat) (E : Nat → Bool) : Prop := ∀ i, i < n → E i = true → ∀ e ∈ edges R i, E e = true
theorem Closed.anc (hs : Static R st H0 A n) (h : Closed R n E) : ∀ k, k < n → E k = true → ∀ m ∈ A k, E m = true := by
  intro k
  induction k using Nat.strongRecOn with
  | _ k ih =>
    intro hk hE m hm
    obtain ⟨e, he, h1⟩ := hs.anc k hk m hm
    have hEe := h k hk hE e he
    have hlt := hs.lt k hk e he
    rcases h1 with h1 | h1
    · rw [h1]; exact hEe
    · exact ih e hlt (by omega) hEe m h1
theorem going_of (hs : Static R st H0 A n) (h : Closed R n E) (hEn : ∀ k, n ≤ k → E k = false) {j : Nat} (hj : j < n) (hE : E j = false) (hr : ∀ e ∈ edges R j, E e = true) :
    Going R st H0 E j ∧ (∀ k, j < k → k < n → E k = true → Apart R st H0 j k) ∧ (∀ m k, m < k → k < n → E m = false → E k = true → Apart R st H0 m k) := by
  have hancj : ∀ m ∈ A j, E m = true := by
    intro m hm
    obtain ⟨e, he, h1⟩ := hs.anc j hj m hm
    have hlt := hs.lt j hj e he
    rcases h1 with h1 | h1
    · rw [h1]; exact hr e he
    · exact h.anc hs e (by omega) (hr e he) m h1
  have hlt : ∀ k, E k = true → k < n := fun k hk => by
    rcases Nat.lt_or_ge k n with h | h
    · exact h
    · rw [hEn k h] at hk; cases hk
  refine ⟨⟨hE, fun k hk hEk => ?_, fun k hk hEk => ?_⟩, fun k hk hkn hEk => ?_, fun m k hmk hkn hm hk => ?_⟩
  · rcases hs.pair k j hk hj with h1 | h1
    · rw [hancj k h1] at hEk; cases hEk
    · exact h1.1
  · rcases hs.pair j k hk (hlt k hEk) with h1 | h1
    · rw [h.anc hs k (hlt k hEk) hEk j h1] at hE; cases hE
    · exact h1.2
  · rcases hs.pair j k hk hkn with h1 | h1
    · rw [h.anc hs k hkn hEk j h1] at hE; cases hE
    · exact h1.1
  · rcases hs.pair m k hmk hkn with h1 | h1
    · rw [h.anc hs k hkn hk m h1] at hm; cases hm
    · exact h1.1
/-- What is asked of an operation: it runs, or its guard says no. -/
def Does (P : Program) (R : Array Oper) (st : Nat → Stp) (r0 : List DV) (H0 : Heap) (j : Nat) (o : Oper) : Prop :=
  (match o.guard with
    | none => True
    | some (g, want) => yield R (rN R st r0 j) g = some (.bool want)) ∧ OpT P o (maskR (usesN R j) 0 (rN R st r0 j)) (maskH (st j).X (st j).W 0 (hN st H0 j)) (st j).v (st j).H
def Skips (R : Array Oper) (st : Nat → Stp) (r0 : List DV) (H0 : Heap) (j : Nat) (o : Oper) : Prop :=
  (match o.guard with
    | none => False
    | some (g, want) => yield R (rN R st r0 j) g = some (.bool (!want)) ∨ yield R (rN R st r0 j) g = some (.tup [])) ∧ (st j).v = .tup [] ∧ (st j).W = [] ∧ (st j).H.length = (hN st H0 j).length
theorem inv_skip {μ0 : Mu} {H00 : Heap} {w00 : World} {a : Act} {w : World} {o : Oper} {j : Nat} (hj : j < n) (hR : R[j]? = some o) (hsj : StpOk P R st r0 H0 j) (hg : Going R st H0 E j) (hA : ∀ k, j < k → k < n → E k = true → Apart R st H0 j k) (hEn : ∀ k, n ≤ k → E k = false)
    (hv : (st j).v = .tup []) (hW : (st j).W = []) (hl : (st j).H.length = (hN st H0 j).length) (hi : InvE μ0 H00 w00 R st r0 H0 n E a w) : InvE μ0 H00 w00 R st r0 H0 n (addE E j) (a.put o.dst undef) w := by
  obtain ⟨⟨μ, hr, hst⟩, hrid, hdef⟩ := hi
  have hH : hE st H0 (addE E j) n = hE st H0 E n := by
    refine heap_ext (by rw [hE_length, hE_length]) fun b => ?_
    have := hE_add (E := E) hsj.len hg (fun b hb => by rw [hW] at hb; cases hb) (fun k hk hEk b hb => (hg.hi k hk hEk).wr b hb) (fun k hk hEk b h1 h2 hb => by omega) (n - (j + 1)) b
    rw [show j + 1 + (n - (j + 1)) = n by omega] at this
    rw [this, if_neg]
    rintro (h | h)
    · rw [hW] at h; simp at h
    · omega
  have hrE : rE R st r0 (addE E j) n = put (rE R st r0 E n) (dstN R j) (st j).v := by
    have := rE_add (R := R) (st := st) (r0 := r0) (H0 := H0) (E := E) hg (n - (j + 1))
    rwa [show j + 1 + (n - (j + 1)) = n by omega] at this
  have hdst : dstN R j = o.dst := by simp [dstN, hR]
  refine ⟨⟨μ, ?_, by rw [hH]; exact hst⟩, ?_, by rw [put_defers]; exact hdef⟩
  · rw [hrE, hdst, hv]; exact put_ok hr (undef_ok _ _) o.dst
  · rw [hrE]
    have hmono : ∀ b, alloc st H0 n E b → alloc st H0 n (addE E j) b := by
      rintro b (h | ⟨k, h1, h2, h3⟩)
      · exact .inl h
      · exact .inr ⟨k, h1, by simp [addE, h2], h3⟩
    intro x hx
    cases hd : dstN R j with
    | none => rw [hd] at hx; exact (hrid x hx).mono hmono
    | some d =>
      rw [hd] at hx
      rcases List.mem_or_eq_of_mem_set hx with h | h
      · exact (hrid x h).mono hmono
      · subst h; rw [hv]; intro y hy; cases hy
def ofL (l : Array Bool) : Nat → Bool := fun i => l.getD i false
theorem ofL_set {l : Array Bool} {j : Nat} (hj : j < l.size) : ofL (l.setIfInBounds j true) = addE (ofL l) j := by
  funext i
  simp only [ofL, addE, Array.getD_eq_getD_getElem?, Array.getElem?_setIfInBounds]
  by_cases h : j = i
  · subst h; simp [hj]
  · have h' : ¬ i = j := fun e => h e.symm
    simp [h, h']
theorem ready_mem {l : Array Bool} {i : Nat} : i ∈ Region.ready .any R l ↔ i < R.size ∧ l.getD i true = false ∧ (∀ e ∈ edges R i, ofL l e = true) := by
  unfold Region.ready edges ofL
  simp only [List.mem_filter, List.mem_range, Bool.and_eq_true, Bool.not_eq_true']
  constructor
  · rintro ⟨h1, h2, h3⟩
    refine ⟨h1, h2, ?_⟩
    rw [Array.getElem?_eq_getElem h1] at h3 ⊢
    simp only [Option.map_some, Option.getD_some, Array.all_eq_true_iff_forall_mem, Bool.or_eq_true, Bool.not_eq_true'] at h3
    intro e he
    simp only [List.mem_map, List.mem_filter] at he
    obtain ⟨ed, ⟨g1, g2⟩, rfl⟩ := he
    rcases h3 ed (by simpa using g1) with h | h
    · rw [g2] at h; cases h
    · exact h
  · rintro ⟨h1, h2, h3⟩
    refine ⟨h1, h2, ?_⟩
    rw [Array.getElem?_eq_getElem h1] at h3 ⊢
    simp only [Option.map_some, Option.getD_some, Array.all_eq_true_iff_forall_mem, Bool.or_eq_true, Bool.not_eq_true']
    intro ed hed
    cases hb : Region.binds .any ed with
    | false => exact .inl rfl
    | true => exact .inr (h3 _ (List.mem_map.2 ⟨ed, List.mem_filter.2 ⟨by simpa using hed, hb⟩, rfl⟩))
theorem rE_all (h : ∀ k, k < n → E k = true) : ∀ k, k ≤ n → rE R st r0 E k = rN R st r0 k
  | 0, _ => rfl
  | k + 1, hk => by simp only [rE, rN]; rw [h k (by omega), rE_all h k (by omega)]; simp
theorem hE_all (h : ∀ k, k < n → E k = true) : ∀ k, k ≤ n → hE st H0 E k = hN st H0 k
  | 0, _ => rfl
  | k + 1, hk => by simp only [hE, hN]; rw [h k (by omega), hE_all h k (by omega)]; simp
def left (l : Array Bool) : Nat := l.toList.countP (fun b => !b)
theorem left_set {l : Array Bool} {j : Nat} (hj : j < l.size) (h : ofL l j = false) : left (l.setIfInBounds j true) + 1 = left l := by
  unfold left
  rw [Array.toList_setIfInBounds]
  have hj' : j < l.toList.length := by simpa using hj
  have hv : l.toList[j]? = some false := by
    have : l.getD j false = false := h
    rw [Array.getD_eq_getD_getElem?, Array.getElem?_eq_getElem hj] at this
    simp only [Option.getD_some] at this
    rw [List.getElem?_eq_getElem hj']
    simpa using this
  clear h hj
  generalize l.toList = m at *
  induction m generalizing j with
  | nil => simp at hj'
  | cons x m ih =>
    cases j with
    | zero =>
      simp only [List.getElem?_cons_zero, Option.some.injEq] at hv
      subst hv
      simp
    | succ j =>
      have := ih (j := j) (by simpa using hj') (by simpa using hv)
      simp only [List.set_cons_succ, List.countP_cons]
      omega
theorem draw_any {Q : Exit → Act → World → Prop} {μ0 : Mu} {H00 : Heap} {w00 : World} (hlen0 : H00.length ≤ H0.length) (h0 : idsH (· < H0.length) H0) (hr0 : ∀ x ∈ r0, idsV (· < H0.length) x)
    (hst : Static R st H0 A R.size) (hs : ∀ k, k < R.size → StpOk P R st r0 H0 k) (hd : ∀ j o, R[j]? = some o → Does P R st r0 H0 j o ∨ Skips R st r0 H0 j o)
    (hfin : ∀ a w, InvE μ0 H00 w00 R st r0 H0 R.size (fun k => decide (k < R.size)) a w → Q .normal a w) :
    ∀ (fuel : Nat) (l : Array Bool) (a : Act) (w : World), l.size = R.size → left l ≤ fuel → Closed R R.size (ofL l) → InvE μ0 H00 w00 R st r0 H0 R.size (ofL l) a w → wpAny P .any R Q fuel l a w := by
  have hdone : ∀ (l : Array Bool) a w, l.size = R.size → Region.ready .any R l = [] → InvE μ0 H00 w00 R st r0 H0 R.size (ofL l) a w → Q .normal a w := by
    intro l a w hl hr hi
    have hall : ∀ k, k < R.size → ofL l k = true := by
      intro k
      induction k using Nat.strongRecOn with
      | _ k ih =>
        intro hk
        cases hE : ofL l k with
        | true => rfl
        | false =>
          have : k ∈ Region.ready .any R l := by
            refine ready_mem.2 ⟨hk, ?_, fun e he => ih e (hst.lt k hk e he) (by have := hst.lt k hk e he; omega)⟩
            have hE : l.getD k false = false := hE
            rw [Array.getD_eq_getD_getElem?, Array.getElem?_eq_getElem (by omega)] at hE ⊢
            simpa using hE
          rw [hr] at this; cases this
    have : ofL l = fun k => decide (k < R.size) := by
      funext k
      by_cases hk : k < R.size
      · rw [hall k hk]; simp [hk]
      · simp only [ofL, Array.getD_eq_getD_getElem?]
        rw [Array.getElem?_eq_none (by omega)]
        simp [hk]
    rw [this] at hi
    exact hfin a w hi
  intro fuel
  induction fuel with
  | zero =>
    intro l a w hl hc hcl hi
    have hnil : Region.ready .any R l = [] := by
      cases hr : Region.ready .any R l with
      | nil => rfl
      | cons i is =>
        have hi2 : i ∈ Region.ready .any R l := by rw [hr]; exact List.mem_cons_self ..
        obtain ⟨h1, h2, _⟩ := ready_mem.1 hi2
        have hf : ofL l i = false := by
          simp only [ofL, Array.getD_eq_getD_getElem?] at h2 ⊢
          rw [Array.getElem?_eq_getElem (by omega)] at h2 ⊢
          simpa using h2
        have := left_set (l := l) (j := i) (by omega) hf
        omega
    exact ⟨hnil, hdone l a w hl hnil hi⟩
  | succ fuel ih =>
    intro l a w hl hc hcl hi
    refine ⟨fun hr => hdone l a w hl hr hi, fun j hj => ?_⟩
    obtain ⟨h1, h2, h3⟩ := ready_mem.1 hj
    have hf : ofL l j = false := by
      simp only [ofL, Array.getD_eq_getD_getElem?] at h2 ⊢
      rw [Array.getElem?_eq_getElem (by omega)] at h2 ⊢
      simpa using h2
    have hEn : ∀ k, R.size ≤ k → ofL l k = false := fun k hk => by
      simp only [ofL, Array.getD_eq_getD_getElem?]
      rw [Array.getElem?_eq_none (by omega)]; rfl
    obtain ⟨hg, hA, hcc⟩ := going_of hst hcl hEn h1 hf h3
    have hleft := left_set (l := l) (j := j) (by omega) hf
    have next : ∀ a' w', InvE μ0 H00 w00 R st r0 H0 R.size (addE (ofL l) j) a' w' → wpAny P .any R Q fuel (l.setIfInBounds j true) a' w' := by
      intro a' w' hi'
      refine ih _ a' w' (by simp [hl]) (by omega) ?_ (by rw [ofL_set (by omega)]; exact hi')
      rw [ofL_set (by omega)]
      intro i hi hEi e he
      simp only [addE, Bool.or_eq_true, beq_iff_eq] at hEi ⊢
      rcases hEi with hEi | rfl
      · exact .inl (hcl i hi hEi e he)
      · exact .inl (h3 e he)
    have ho : R[j]? = some R[j] := Array.getElem?_eq_getElem h1
    have hi0 := hi
    obtain ⟨⟨μ, hr, hstp⟩, _, _⟩ := hi0
    have hyield : ∀ g x, (R[j].guard.map (·.1)) = some g → yield R (rN R st r0 j) g = some x → yield R (rE R st r0 (ofL l) R.size) g = some x := by
      intro g x hgd hy
      unfold yield at hy ⊢
      cases hd : (R[g]?).bind (·.dst) with
      | none => rw [hd] at hy; cases hy
      | some d =>
        rw [hd] at hy
        simp only [Option.map_some, Option.some.injEq] at hy ⊢
        rw [← hy]
        have hu : d ∈ usesN R j := by
          unfold usesN
          rw [ho]
          simp only [Oper.looksAt, List.mem_append]
          right
          cases hgg : R[j].guard with
          | none => rw [hgg] at hgd; cases hgd
          | some p =>
            obtain ⟨g', want⟩ := p
            rw [hgg] at hgd
            cases hgd
            simp [hd]
        have := rE_seen2 (R := R) (st := st) (r0 := r0) (H0 := H0) (E := ofL l) hg hu (R.size - j)
        rwa [show j + (R.size - j) = R.size by omega] at this
    unfold wpOp
    rw [ho]
    simp only
    rcases hd j _ ho with hdo | hsk
    · have hw : Region.wanted R[j] (yielded R a.tmps) = true := by
        obtain ⟨h1, _⟩ := hdo
        unfold Region.wanted
        cases hgg : R[j].guard with
        | none => rfl
        | some p =>
          obtain ⟨g, want⟩ := p
          rw [hgg] at h1
          simp only at h1 ⊢
          rw [(yielded_ok hr (hyield g _ (by rw [hgg]; rfl) h1)).1 want rfl]
          simp
      rw [if_pos hw]
      refine .inl (Go.Proofs.YtkpojkhedmeneaaE.Oper.wp_q (Go.Oper.wp_mono (fun a' w' hk => next a' w' hk) ?_))
      exact inv_step h1 ho hlen0 h0 hr0 hs hcc hg hA hEn hdo.2 hi
    · obtain ⟨k1, k2, k3, k4⟩ := hsk
      have hw : Region.wanted R[j] (yielded R a.tmps) = false := by
        unfold Region.wanted
        cases hgg : R[j].guard with
        | none => rw [hgg] at k1; exact k1.elim
        | some p =>
          obtain ⟨g, want⟩ := p
          rw [hgg] at k1
          simp only at k1 ⊢
          rcases k1 with k1 | k1
          · rw [(yielded_ok hr (hyield g _ (by rw [hgg]; rfl) k1)).1 (!want) rfl]
            cases want <;> rfl
          · rw [(yielded_ok hr (hyield g _ (by rw [hgg]; rfl) k1)).2 rfl]
            rfl
      rw [hw]
      exact next _ _ (inv_skip h1 ho (hs j h1) hg hA hEn k2 k3 k4 hi)
end
/-- A region whose order is drawn. -/
theorem D.draw0 {P : Program} {n0 : Nat} {t : List Item} {s : St} {Qd : St → Prop} {id : Nat} {R : Array Oper} (hm : P.follows .mixedOrders = true) (st : Nat → Stp) (A : Nat → List Nat) (hn0 : n0 ≤ s.H.length)
    (hst : Static R st s.H A R.size) (hs : ∀ k, k < R.size → StpOk P R st s.r s.H k) (hd : ∀ j o, R[j]? = some o → Does P R st s.r s.H j o ∨ Skips R st s.r s.H j o)
    (h : D P n0 t ⟨rN R st s.r R.size, hN st s.H R.size⟩ Qd) : D P n0 (.code (.region id R true) :: t) s Qd := by
  intro μ0 H00 w00 e a w ha
  obtain ⟨⟨μ, hr, hstp⟩, hdef⟩ := ha
  have hr0 : ∀ x ∈ s.r, idsV (· < s.H.length) x := by
    intro x hx
    obtain ⟨i, hi, rfl⟩ := List.mem_iff_getElem.1 hx
    obtain ⟨v, _, hv⟩ := hr.get (List.getElem?_eq_getElem hi)
    exact val_ids hv
  refine wp_region_any hm ?_
  refine draw_any (A := A) (μ0 := μ0) (H00 := H00) (w00 := w00) (by omega) hstp.hrel.ids hr0 hst hs hd ?_ _ _ _ _ (by simp) (by simp only [left, Array.toList_replicate]; exact Nat.le_trans List.countP_le_length (by simp)) ?_ ?_
  · intro a w hi
    obtain ⟨⟨μ, h1, h2⟩, _, h3⟩ := hi
    have hall : ∀ k, k < R.size → (decide (k < R.size)) = true := fun k hk => by simpa using hk
    rw [rE_all hall R.size (Nat.le_refl _)] at h1
    rw [hE_all hall R.size (Nat.le_refl _)] at h2
    exact h μ0 H00 w00 e a w ⟨⟨μ, h1, h2⟩, h3⟩
  · intro i hi hE
    exfalso
    simp [ofL, Array.getD_eq_getD_getElem?] at hE
    cases hx : (Array.replicate R.size false)[i]? with
    | none => simp_all
    | some b => simp_all
  · have hf : ∀ k, ofL (Array.replicate R.size false) k = false := by
      intro k
      simp only [ofL, Array.getD_eq_getD_getElem?, Array.getElem?_replicate]
      split <;> rfl
    have hfr : ∀ k, rE R st s.r (ofL (Array.replicate R.size false)) k = s.r := by
      intro k
      induction k with
      | zero => rfl
      | succ k ih => simp only [rE]; rw [hf k]; simpa using ih
    have hfh : ∀ k b, look (hE st s.H (ofL (Array.replicate R.size false)) k) b = look s.H b := by
      intro k
      induction k with
      | zero => intro b; rfl
      | succ k ih => intro b; simp only [hE]; rw [hf k]; simp only [Bool.false_eq_true, if_false, pad_look]; exact ih b
    have hln : (hE st s.H (ofL (Array.replicate R.size false)) R.size).length = (hN st s.H R.size).length := hE_length _
    have hle : s.H.length ≤ (hN st s.H R.size).length := hN_mono (i := 0) (Nat.zero_le _)
    have hids := hstp.hrel.ids
    have hview : View rid s.H (hE st s.H (ofL (Array.replicate R.size false)) R.size) := by
      refine ⟨fun b e2 he q hq => ?_, fun b e q b' e' q' _ _ _ _ _ hne => by rcases hne with h | h; (exact .inl h); (exact .inr h)⟩
      rw [hfh] at he
      refine ⟨e2, he, hq, fun hw => ⟨hw, rfl⟩, rfl, fun i hi => ⟨hi, L2.of rfl fun k x y hx hy => ?_⟩⟩
      have hx : ((e2.row q).at i)[k]? = some x := hx
      rw [hy] at hx
      cases hx
      obtain ⟨u, hu⟩ := hstp.hrel.leafs he hq hi (List.mem_of_getElem? hy)
      exact leLeaf_id hu ((hids b e2 he q hq i hi _ (List.mem_of_getElem? hy)).mono fun b hb => ⟨by rw [hln]; omega, fun _ => rfl⟩)
    refine ⟨⟨μ.via rid, ?_, ((hstp.view hview (fun _ _ _ => rfl) (by rw [hln]; have := hstp.len; omega)).drawn _)⟩, ?_, hdef⟩
    · rw [hfr, ← hln]
      refine L2.of hr.length fun i x u hx hu => ?_
      obtain ⟨u', hu', hv⟩ := hr.get hx
      rw [hu] at hu'
      cases hu'
      exact LeV.ok hv (leV_id hv ((hr0 x (List.mem_of_getElem? hx)).mono fun b hb => ⟨by rw [hln]; omega, fun _ => rfl⟩))
    · rw [hfr]
      exact fun x hx => (hr0 x hx).mono fun b hb => .inl hb
end Go.Proofs.YtkpojkhedmeneaaE
