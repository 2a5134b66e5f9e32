/- A part of the proof of a law of the given program: the logic of runs over laid-out memory. No condition of its own. -/
import Derived.Test.YtkpojkhedmeneaaEE18
namespace Go.Proofs.YtkpojkhedmeneaaE
open Go.RowKit
/-! ### the same, to be computed -/
def seenOpts (X : List Nat) (n : Nat) : List (Option Ent) → Prop
  | [] => True
  | none :: l => seenOpts X n l
  | some e :: l => seenEnt X n e ∧ seenOpts X n l
theorem seenOpts_mem {X : List Nat} {n : Nat} : ∀ {l : List (Option Ent)} {e : Ent}, seenOpts X n l → some e ∈ l → seenEnt X n e
  | none :: l, e, h, hm => by
    rcases List.mem_cons.1 hm with h1 | h1
    · cases h1
    · exact seenOpts_mem (l := l) h h1
  | some e0 :: l, e, h, hm => by
    rcases List.mem_cons.1 hm with h1 | h1
    · cases h1; exact h.1
    · exact seenOpts_mem h.2 h1
  | [], e, h, hm => by cases hm
def wokB (X : List Nat) (H H' : Heap) : List Nat → Bool
  | [] => true
  | b :: W => !X.contains b && (match look H b with | some e => e.w && (match look H' b with | some e' => e'.m == e.m && e'.w | none => true) | none => false) && wokB X H H' W
def obl (lo : Nat) (X W : List Nat) (H : Heap) (v : DV) (H' : Heap) : Prop :=
  (decide (H.length ≤ H'.length) && wokB X H H' W && allW (H'.drop H.length)) = true ∧ seenOpts (newX lo X) H'.length (W.map (look H') ++ H'.drop H.length) ∧ seenV (newX lo X) H'.length v
theorem wokB_ok {X : List Nat} {H H' : Heap} : ∀ {W : List Nat}, wokB X H H' W = true → ∀ b ∈ W, X.contains b = false ∧ ∃ e, look H b = some e ∧ e.w = true ∧ ∀ e', look H' b = some e' → e'.m = e.m ∧ e'.w = true
  | [], _, b, hb => by cases hb
  | c :: W, h, b, hb => by
    simp only [wokB, Bool.and_eq_true, Bool.not_eq_true'] at h
    obtain ⟨⟨h1, h2⟩, h3⟩ := h
    rcases List.mem_cons.1 hb with rfl | hb
    · refine ⟨h1, ?_⟩
      cases hl : look H b with
      | none => rw [hl] at h2; cases h2
      | some e =>
        rw [hl] at h2
        simp only [Bool.and_eq_true] at h2
        refine ⟨e, rfl, h2.1, fun e' he' => ?_⟩
        rw [he'] at h2
        simp only [Bool.and_eq_true, beq_iff_eq] at h2
        exact h2.2
    · exact wokB_ok h3 b hb
/-- One operation of a drawn region, at the registers and the heap of the text's order. -/
structure StepL (lo : Nat) (P : Program) (R : Array Oper) (i : Nat) (o : Oper) (r : List DV) (H : Heap) (s : Stp) : Prop where
  obl : obl lo s.X s.W H s.v s.H
  run : ((match o.guard with
      | none => True
      | some (g, want) => yield R r g = some (.bool want)) ∧ OpT P o (maskR (usesN R i) 0 r) (maskH s.X s.W 0 H) s.v s.H) ∨
    ((match o.guard with
      | none => False
      | some (g, want) => yield R r g = some (.bool (!want)) ∨ yield R r g = some (.tup [])) ∧ s.v = .tup [] ∧ s.W = [] ∧ s.H.length = H.length)
def Chain (lo : Nat) (P : Program) (R : Array Oper) : Nat → List Oper → List Stp → List DV → Heap → Prop
  | _, [], [], _, _ => True
  | i, o :: os, s :: st, r, H => StepL lo P R i o r H s ∧ Chain lo P R (i + 1) os st (put r o.dst s.v) (merge s.W H s.H)
  | _, _, _, _, _ => False
def finR : List Oper → List Stp → List DV → List DV
  | o :: os, s :: st, r => finR os st (put r o.dst s.v)
  | _, _, r => r
def finH : List Stp → Heap → Heap
  | s :: st, H => finH st (merge s.W H s.H)
  | [], H => H
def stF (l : List Stp) : Nat → Stp := fun i => l.getD i default
theorem chain_at {lo : Nat} {P : Program} {R : Array Oper} {r0 : List DV} {H0 : Heap} {all : List Stp} : ∀ {i : Nat} {os : List Oper} {st : List Stp} {r : List DV} {H : Heap},
    Chain lo P R i os st r H → (∀ k, os[k]? = R[i + k]?) → (∀ k, k < st.length → st.getD k default = stF all (i + k)) → r = rN R (stF all) r0 i → H = hN (stF all) H0 i →
    st.length = os.length ∧ (∀ k o, R[i + k]? = some o → k < os.length → StepL lo P R (i + k) o (rN R (stF all) r0 (i + k)) (hN (stF all) H0 (i + k)) (stF all (i + k))) ∧
      finR os st r = rN R (stF all) r0 (i + os.length) ∧ finH st H = hN (stF all) H0 (i + os.length)
  | i, [], [], r, H, _, _, _, hr, hH => ⟨rfl, fun k o _ hk => by simp at hk, by simpa [finR] using hr, by simpa [finH] using hH⟩
  | i, o :: os, s :: st, r, H, hc, hR, hst, hr, hH => by
    have hs : s = stF all i := by simpa using hst 0 (by simp)
    have ho : R[i]? = some o := by simpa using (hR 0).symm
    have hd : dstN R i = o.dst := by simp [dstN, ho]
    obtain ⟨h1, h2, h3, h4⟩ := chain_at (r0 := r0) (H0 := H0) (all := all) hc.2 (fun k => by have := hR (k + 1); simp only [List.getElem?_cons_succ] at this; rw [this]; congr 1; omega)
      (fun k hk => by have := hst (k + 1) (by simpa using hk); simp only [List.getD_cons_succ] at this; rw [this]; congr 1; omega)
      (by simp only [rN]; rw [← hr, hd, hs]) (by simp only [hN]; rw [← hH, hs])
    refine ⟨by simp [h1], fun k o' hk hlt => ?_, ?_, ?_⟩
    · match k with
      | 0 =>
        simp only [Nat.add_zero] at hk ⊢
        rw [ho] at hk
        cases hk
        rw [← hr, ← hH, ← hs]
        exact hc.1
      | k + 1 =>
        have := h2 k o' (by rw [← hk]; congr 1; omega) (by simpa using hlt)
        rwa [show i + 1 + k = i + (k + 1) by omega] at this
    · simp only [finR, List.length_cons]
      rw [h3]; congr 1; omega
    · simp only [finH, List.length_cons]
      rw [h4]; congr 1; omega
  | _, [], _ :: _, _, _, h, _, _, _, _ => h.elim
  | _, _ :: _, [], _, _, h, _, _, _, _ => h.elim
/-- The pairs that must be apart. -/
def apartB (R : Array Oper) (k j : Nat) (s1 s2 : Stp) (lo : Nat) : Bool :=
  (match dstN R k with | some d => !(usesN R j).contains d && dstN R j != some d | none => true) && s1.W.all (fun b => s2.X.contains b) && (List.range' lo (s1.H.length - lo)).all (fun b => s2.X.contains b)
def loOf (n0 : Nat) (l : List Stp) (k : Nat) : Nat := match k with | 0 => n0 | k + 1 => (l.getD k default).H.length
def staticB (R : Array Oper) (A : List (List Nat)) (n0 : Nat) (l : List Stp) : Bool :=
  (List.range R.size).all fun k =>
    (edges R k).all (fun e => decide (e < k)) && (A.getD k []).all (fun m => (edges R k).any fun e => m == e || (A.getD e []).contains m) &&
    (List.range k).all fun m => (A.getD k []).contains m || (apartB R m k (l.getD m default) (l.getD k default) (loOf n0 l m) && apartB R k m (l.getD k default) (l.getD m default) (loOf n0 l k))
theorem staticB_ok {R : Array Oper} {A : List (List Nat)} {H0 : Heap} {l : List Stp} (h : staticB R A H0.length l = true) (hlo : ∀ k, k < R.size → (hN (stF l) H0 k).length = loOf H0.length l k) : Static R (stF l) H0 (fun i => A.getD i []) R.size := by
  unfold staticB at h
  rw [List.all_eq_true] at h
  have hap : ∀ k j, k < R.size → apartB R k j (l.getD k default) (l.getD j default) (loOf H0.length l k) = true → Apart R (stF l) H0 k j := by
    intro k j hk h
    simp only [apartB, Bool.and_eq_true, List.all_eq_true] at h
    obtain ⟨⟨h1, h2⟩, h3⟩ := h
    refine ⟨fun d hd => ?_, fun d hd => ?_, fun b hb => h2 b hb, fun b hb1 hb2 => h3 b ?_⟩
    · rw [hd] at h1
      simp only [Bool.and_eq_true, Bool.not_eq_true'] at h1
      intro hm
      have := h1.1
      rw [List.contains_iff_mem.2 hm] at this
      cases this
    · rw [hd] at h1
      simp only [Bool.and_eq_true, bne_iff_ne, ne_eq] at h1
      exact h1.2
    · rw [hlo k hk] at hb1
      rw [List.mem_range'_1]
      show _ ≤ b ∧ b < _ + _
      unfold stF at hb2
      omega
  refine ⟨fun i hi e he => ?_, fun i hi k hk => ?_, fun m k hmk hk => ?_⟩
  · have := h i (List.mem_range.2 hi)
    simp only [Bool.and_eq_true, List.all_eq_true, decide_eq_true_eq] at this
    exact this.1.1 e he
  · have := h i (List.mem_range.2 hi)
    simp only [Bool.and_eq_true, List.all_eq_true, List.any_eq_true, Bool.or_eq_true, beq_iff_eq] at this
    obtain ⟨e, he, h1⟩ := this.1.2 k hk
    refine ⟨e, he, ?_⟩
    rcases h1 with h1 | h1
    · exact .inl h1
    · exact .inr (List.contains_iff_mem.1 h1)
  · have := h k (List.mem_range.2 hk)
    simp only [Bool.and_eq_true, List.all_eq_true, Bool.or_eq_true] at this
    rcases this.2 m (List.mem_range.2 hmk) with h1 | h1
    · exact .inl (List.contains_iff_mem.1 h1)
    · exact .inr ⟨hap m k (by omega) h1.1, hap k m hk h1.2⟩
def Dr (lo : Nat) (P : Program) (R : Array Oper) (K : List Stp → List DV → Heap → Prop) (i : Nat) (os : List Oper) (r : List DV) (H : Heap) (acc : List Stp) : Prop :=
  ∃ st, Chain lo P R i os st r H ∧ K (acc ++ st) (finR os st r) (finH st H)
theorem Dr.nil {lo : Nat} {P : Program} {R : Array Oper} {K : List Stp → List DV → Heap → Prop} {i : Nat} {r : List DV} {H : Heap} {acc : List Stp} (h : K acc r H) : Dr lo P R K i [] r H acc := ⟨[], trivial, by simpa [finR, finH] using h⟩
theorem Dr.cons {lo : Nat} {P : Program} {R : Array Oper} {K : List Stp → List DV → Heap → Prop} {i : Nat} {o : Oper} {os : List Oper} {r : List DV} {H : Heap} {acc : List Stp} {s : Stp} (hs : StepL lo P R i o r H s)
    (h : Dr lo P R K (i + 1) os (put r o.dst s.v) (merge s.W H s.H) (acc ++ [s])) : Dr lo P R K i (o :: os) r H acc := by
  obtain ⟨st, h1, h2⟩ := h
  exact ⟨s :: st, ⟨hs, h1⟩, by simpa [finR, finH] using h2⟩
theorem D.draw1 {P : Program} {n0 : Nat} {t : List Item} {s : St} {Qd : St → Prop} {id : Nat} {R : Array Oper} (hm : P.follows .mixedOrders = true) (A : List (List Nat)) (hn0 : n0 ≤ s.H.length)
    (h : Dr s.H.length P R (fun l r H => staticB R A s.H.length l = true ∧ D P n0 t ⟨r, H⟩ Qd) 0 R.toList s.r s.H []) : D P n0 (.code (.region id R true) :: t) s Qd := by
  obtain ⟨st, hc, hst, hd⟩ := h
  simp only [List.nil_append] at hst hd
  obtain ⟨h1, h2, h3, h4⟩ := chain_at (all := st) (r0 := s.r) (H0 := s.H) hc (fun k => by simp) (fun k hk => by simp [stF]) rfl rfl
  simp only [Nat.zero_add, Array.length_toList] at h1 h2 h3 h4
  have hok : ∀ k, k < R.size → StpOk P R (stF st) s.r s.H k := by
    intro k hk
    have := (h2 k _ (Array.getElem?_eq_getElem hk) hk).obl
    obtain ⟨g1, g2, g3⟩ := this
    simp only [Bool.and_eq_true, decide_eq_true_eq] at g1
    obtain ⟨⟨g1, g4⟩, g5⟩ := g1
    refine ⟨g1, wokB_ok g4, fun b e hb he => allW_ok g5 (b := b - (hN (stF st) s.H k).length) (by rw [look_drop, ← he]; congr 1; omega), fun b e hb he => seenOpts_mem g2 ?_, g3⟩
    rw [List.mem_append]
    rcases hb with hb | hb
    · exact .inl (List.mem_map.2 ⟨b, hb, he⟩)
    · right
      rw [look_some] at he
      refine List.mem_of_getElem? (i := b - (hN (stF st) s.H k).length) ?_
      rw [List.getElem?_drop, ← he]; congr 1; omega
  have hlo : ∀ k, k < R.size → (hN (stF st) s.H k).length = loOf s.H.length st k := by
    intro k hk
    cases k with
    | zero => rfl
    | succ k => rw [hN_succ (hok k (by omega)).len]; rfl
  refine D.draw0 hm (stF st) (fun i => A.getD i []) hn0 (staticB_ok hst hlo) hok (fun j o ho => ?_) (by rw [← h3, ← h4]; exact hd)
  have hj : j < R.size := (Array.getElem?_eq_some_iff.1 ho).1
  rcases (h2 j o ho hj).run with h | h
  · exact .inl h
  · exact .inr h
end Go.Proofs.YtkpojkhedmeneaaE
