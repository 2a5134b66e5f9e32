/- A part of the proof of a law of the given program: the logic of runs over laid-out memory. No condition of its own. -/
import Derived.Test.YtkpojkhedmeneaaEE8
namespace Go.Proofs.YtkpojkhedmeneaaE
open Go.RowKit

/-! ### seen through a renaming -/
abbrev Ren := Nat → Nat → Nat × Nat × Nat
def Mu.via (μ : Mu) (ρ : Ren) : Mu := fun b q => ⟨(μ (ρ b q).1 (ρ b q).2.1).g, (μ (ρ b q).1 (ρ b q).2.1).o + (ρ b q).2.2 * (μ (ρ b q).1 (ρ b q).2.1).z, (μ (ρ b q).1 (ρ b q).2.1).z, (μ (ρ b q).1 (ρ b q).2.1).m.map (· - (ρ b q).2.2)⟩
theorem Mu.via_loc (μ : Mu) (ρ : Ren) (b q i o : Nat) : (μ.via ρ).loc b q i o = μ.loc (ρ b q).1 (ρ b q).2.1 (i + (ρ b q).2.2) o := by
  simp only [Mu.loc, Mu.via, Nat.add_mul]
  congr 1; omega
theorem Mu.via_id (μ : Mu) {ρ : Ren} {b q : Nat} {x y : Nat} (h : ρ b q = (x, y, 0)) : μ.via ρ b q = μ x y := by
  simp only [Mu.via, h]
  cases hs : μ x y with
  | mk g o z m => cases m <;> simp
def LeLeaf (ρ : Ren) (n : Nat) : DV → DV → Prop
  | x, .any => True
  | x, .ptr b q i o => b < n ∧ x = .ptr (ρ b q).1 (ρ b q).2.1 (i + (ρ b q).2.2) o
  | x, .sl b q i len cap => b < n ∧ ((len = 0 ∧ cap = 0 ∧ x = .nils) ∨ ∃ cap', cap ≤ cap' ∧ x = .sl (ρ b q).1 (ρ b q).2.1 (i + (ρ b q).2.2) len cap')
  | x, .fn f caps => (∀ b ∈ caps, b < n ∧ (ρ b 0).2 = (0, 0)) ∧ x = .fn f (caps.map fun b => (ρ b 0).1)
  | x, .agg _ => False
  | x, .tup _ => False
  | x, y => x = y
def LeElem (ρ : Ren) (n : Nat) : DV → DV → Prop
  | x, .agg l => ∃ l', x = .agg l' ∧ L2 (LeLeaf ρ n) l' l
  | x, y => LeLeaf ρ n x y
def LeV (ρ : Ren) (n : Nat) : DV → DV → Prop
  | x, .tup l => ∃ l', x = .tup l' ∧ L2 (LeElem ρ n) l' l
  | x, y => LeElem ρ n x y
theorem L2.flip {α β : Type} {R : α → β → Prop} {l : List α} {m : List β} (h : L2 R l m) : L2 (fun b a => R a b) m l :=
  L2.of h.length.symm fun i b a hb ha => by obtain ⟨c, hc, r⟩ := h.get ha; rw [hb] at hc; exact Option.some.inj hc ▸ r
theorem LeLeaf.ok {n1 n : Nat} {μ : Mu} {ρ : Ren} {x y : DV} {v : Value} (h : Leaf n1 μ x v) (k : LeLeaf ρ n x y) : Leaf n (μ.via ρ) y v := by
  cases y with
  | any => exact trivial
  | ptr b q i o =>
    obtain ⟨hb, rfl⟩ := k
    exact ⟨hb, by rw [Mu.via_loc]; exact h.2⟩
  | sl b q i len cap =>
    obtain ⟨hb, k⟩ := k
    refine ⟨hb, ?_⟩
    rcases k with ⟨rfl, rfl, rfl⟩ | ⟨cap', hc, rfl⟩
    · exact .inl ⟨rfl, rfl, h⟩
    · rcases h.2 with ⟨h1, h2, h3⟩ | ⟨a, c, h1, h2, h3, h4⟩
      · exact .inl ⟨h1, by omega, h3⟩
      · refine .inr ⟨a, c, h1, h2, by omega, ?_⟩
        rcases h4 with h4 | ⟨h4, h5⟩
        · exact .inl h4
        · refine .inr ⟨by rw [Mu.via_loc]; exact h4, fun m hm => ?_⟩
          simp only [Mu.via] at hm
          cases hmm : (μ (ρ b q).1 (ρ b q).2.1).m with
          | none => rw [hmm] at hm; cases hm
          | some m0 =>
            rw [hmm] at hm
            simp only [Option.map_some, Option.some.injEq] at hm
            have := h5 m0 hmm
            omega
  | fn f caps =>
    obtain ⟨k1, rfl⟩ := k
    refine ⟨fun b hb => (k1 b hb).1, ?_⟩
    rw [h.2, List.map_map]
    congr 2
    refine List.map_congr_left fun b hb => ?_
    have hb2 := (k1 b hb).2
    simp only [Function.comp]
    rw [Mu.via_loc]
    have e1 : (ρ b 0).2.1 = 0 := by rw [hb2]
    have e2 : (ρ b 0).2.2 = 0 := by rw [hb2]
    rw [e1, e2]
  | agg l => exact k.elim
  | tup l => exact k.elim
  | _ => obtain rfl : x = _ := k; exact h
theorem LeElem.ok {n1 n : Nat} {μ : Mu} {ρ : Ren} {x y : DV} {v : Value} (h : Elem n1 μ x v) (k : LeElem ρ n x y) : Elem n (μ.via ρ) y v := by
  have leaf : ∀ {x y : DV}, LeLeaf ρ n x y → Elem n1 μ x v → Elem n (μ.via ρ) y v := by
    intro x y k h
    cases x with
    | agg l => cases y <;> first | exact trivial | exact k.elim | (obtain ⟨_, k⟩ := k; cases k; done) | (obtain ⟨_, k⟩ := k; rcases k with ⟨_, _, k⟩ | ⟨_, _, k⟩ <;> cases k) | cases k
    | tup l => exact (show Leaf n1 μ (.tup l) v from h).elim
    | any => exact (LeLeaf.ok (n1 := n1) (μ := μ) (v := v) (x := .any) trivial k).elem
    | ptr b q i o => exact (LeLeaf.ok (n1 := n1) (μ := μ) (v := v) (x := .ptr b q i o) h k).elem
    | sl b q i len cap => exact (LeLeaf.ok (n1 := n1) (μ := μ) (v := v) (x := .sl b q i len cap) h k).elem
    | fn f caps => exact (LeLeaf.ok (n1 := n1) (μ := μ) (v := v) (x := .fn f caps) h k).elem
    | int kk m => exact (LeLeaf.ok (n1 := n1) (μ := μ) (v := v) (x := .int kk m) h k).elem
    | bool b => exact (LeLeaf.ok (n1 := n1) (μ := μ) (v := v) (x := .bool b) h k).elem
    | str s => exact (LeLeaf.ok (n1 := n1) (μ := μ) (v := v) (x := .str s) h k).elem
    | nilp => exact (LeLeaf.ok (n1 := n1) (μ := μ) (v := v) (x := .nilp) h k).elem
    | nils => exact (LeLeaf.ok (n1 := n1) (μ := μ) (v := v) (x := .nils) h k).elem
  cases y with
  | agg l =>
    obtain ⟨l', rfl, k⟩ := k
    obtain ⟨vs, rfl, h⟩ := h
    exact ⟨vs, rfl, L2.trans (fun (a : DV) (b : DV) (c : Value) (h1 : LeLeaf ρ n b a) (h2 : Leaf n1 μ b c) => LeLeaf.ok h2 h1) k.flip h⟩
  | tup l => exact (show LeLeaf ρ n x (.tup l) from k).elim
  | any => exact trivial
  | ptr b q i o => exact leaf (y := .ptr b q i o) k h
  | sl b q i len cap => exact leaf (y := .sl b q i len cap) k h
  | fn f caps => exact leaf (y := .fn f caps) k h
  | int kk m => exact leaf (y := .int kk m) k h
  | bool b => exact leaf (y := .bool b) k h
  | str s => exact leaf (y := .str s) k h
  | nilp => exact leaf (y := .nilp) k h
  | nils => exact leaf (y := .nils) k h
theorem LeV.ok {n1 n : Nat} {μ : Mu} {ρ : Ren} {x y : DV} {v : Value} (h : VRel n1 μ x v) (k : LeV ρ n x y) : VRel n (μ.via ρ) y v := by
  have elem : ∀ {x y : DV}, LeElem ρ n x y → VRel n1 μ x v → VRel n (μ.via ρ) y v := by
    intro x y k h
    cases x with
    | tup l => cases y <;> first | exact trivial | (obtain ⟨_, k, _⟩ := k; cases k; done) | exact k.elim | (obtain ⟨_, k⟩ := k; cases k; done) | (obtain ⟨_, k⟩ := k; rcases k with ⟨_, _, k⟩ | ⟨_, _, k⟩ <;> cases k) | cases k
    | agg l => exact (LeElem.ok (n1 := n1) (μ := μ) (v := v) (x := .agg l) h k).val
    | any => exact (LeElem.ok (n1 := n1) (μ := μ) (v := v) (x := .any) trivial k).val
    | ptr b q i o => exact (LeElem.ok (n1 := n1) (μ := μ) (v := v) (x := .ptr b q i o) h k).val
    | sl b q i len cap => exact (LeElem.ok (n1 := n1) (μ := μ) (v := v) (x := .sl b q i len cap) h k).val
    | fn f caps => exact (LeElem.ok (n1 := n1) (μ := μ) (v := v) (x := .fn f caps) h k).val
    | int kk m => exact (LeElem.ok (n1 := n1) (μ := μ) (v := v) (x := .int kk m) h k).val
    | bool b => exact (LeElem.ok (n1 := n1) (μ := μ) (v := v) (x := .bool b) h k).val
    | str s => exact (LeElem.ok (n1 := n1) (μ := μ) (v := v) (x := .str s) h k).val
    | nilp => exact (LeElem.ok (n1 := n1) (μ := μ) (v := v) (x := .nilp) h k).val
    | nils => exact (LeElem.ok (n1 := n1) (μ := μ) (v := v) (x := .nils) h k).val
  cases y with
  | tup l =>
    obtain ⟨l', rfl, k⟩ := k
    obtain ⟨vs, rfl, h⟩ := h
    exact ⟨vs, rfl, L2.trans (fun (a : DV) (b : DV) (c : Value) (h1 : LeElem ρ n b a) (h2 : Elem n1 μ b c) => LeElem.ok h2 h1) k.flip h⟩
  | any => exact trivial
  | agg l => exact elem (y := .agg l) k h
  | ptr b q i o => exact elem (y := .ptr b q i o) k h
  | sl b q i len cap => exact elem (y := .sl b q i len cap) k h
  | fn f caps => exact elem (y := .fn f caps) k h
  | int kk m => exact elem (y := .int kk m) k h
  | bool b => exact elem (y := .bool b) k h
  | str s => exact elem (y := .str s) k h
  | nilp => exact elem (y := .nilp) k h
  | nils => exact elem (y := .nils) k h
theorem LeVs.ok {n1 n : Nat} {μ : Mu} {ρ : Ren} {xs ys : List DV} {vs : List Value} (h : L2 (VRel n1 μ) xs vs) (k : L2 (LeV ρ n) xs ys) : L2 (VRel n (μ.via ρ)) ys vs :=
  L2.trans (fun (a : DV) (b : DV) (c : Value) (h1 : LeV ρ n b a) (h2 : VRel n1 μ b c) => LeV.ok h2 h1) k.flip h
structure View (ρ : Ren) (H1 H2 : Heap) : Prop where
  rows : ∀ b e2, look H2 b = some e2 → ∀ q, q < e2.m → ∃ e1, look H1 (ρ b q).1 = some e1 ∧ (ρ b q).2.1 < e1.m ∧ (e2.w = true → e1.w = true ∧ (ρ b q).2.2 = 0) ∧
    (e1.row (ρ b q).2.1).z = (e2.row q).z ∧ ∀ i, i < (e2.row q).n → i + (ρ b q).2.2 < (e1.row (ρ b q).2.1).n ∧ L2 (LeLeaf ρ H2.length) ((e1.row (ρ b q).2.1).at (i + (ρ b q).2.2)) ((e2.row q).at i)
  inj : ∀ b e q b' e' q', look H2 b = some e → e.w = true → q < e.m → look H2 b' = some e' → q' < e'.m → (b ≠ b' ∨ q ≠ q') → ((ρ b q).1 ≠ (ρ b' q').1 ∨ (ρ b q).2.1 ≠ (ρ b' q').2.1)
theorem View.hrel {ρ : Ren} {μ : Mu} {H1 H2 : Heap} {w : World} (hv : View ρ H1 H2) (h : HRel μ H1 w) : HRel (μ.via ρ) H2 w := by
  refine ⟨fun b e2 he q hq => ?_, fun b e2 he hw q hq => ?_, fun b e q b' e' q' h1 hw h2 hm1 h3 h4 hne hlv => ?_⟩
  · obtain ⟨e1, k1, k2, k3, k4, k5⟩ := hv.rows b e2 he q hq
    have hr := h.rows _ e1 k1 _ k2
    refine ⟨by rw [← k4, ← hr.z]; rfl, fun hn => ?_⟩
    obtain ⟨cs, t, fz, hh, hc⟩ := hr.cells (by have := (k5 0 hn).1; omega)
    refine ⟨cs, t, fz, hh, fun i hi => ?_⟩
    obtain ⟨l1, l2⟩ := k5 i hi
    obtain ⟨m1, m2⟩ := hc _ l1
    refine ⟨by rw [← l2.length, m1, k4], fun j d hd => ?_⟩
    obtain ⟨d1, hd1, hle⟩ := l2.get' hd
    obtain ⟨v, hv1, hl⟩ := m2 j d1 hd1
    refine ⟨v, ?_, LeLeaf.ok hl hle⟩
    rw [← hv1]
    simp only [Mu.via, Nat.add_mul]
    congr 1; omega
  · obtain ⟨e1, k1, k2, k3, k4, k5⟩ := hv.rows b e2 he q hq
    obtain ⟨w1, s0⟩ := k3 hw
    obtain ⟨m, o2, o4, o3⟩ := h.own _ e1 k1 w1 _ k2
    refine ⟨m, by simp [Mu.via, o2, s0], fun h0 => o4 (by have := (k5 0 h0).1; omega), fun h0 => ?_⟩
    obtain ⟨cs, t, o1, o5⟩ := o3 h0
    exact ⟨cs, t, o1, by simpa [Mu.via, s0] using o5⟩
  · obtain ⟨e1, k1, k2, k3, _⟩ := hv.rows b e h1 q h2
    obtain ⟨e1', k1', k2', k3', k4', k5'⟩ := hv.rows b' e' h3 q' h4
    have vm : ∀ {b q : Nat}, (ρ b q).2.2 = 0 → (μ.via ρ b q).m = (μ (ρ b q).1 (ρ b q).2.1).m := fun {b q} hs => by simp only [Mu.via, hs]; cases (μ (ρ b q).1 (ρ b q).2.1).m <;> simp
    exact h.inj _ e1 _ _ e1' _ k1 (k3 hw).1 k2 (by rwa [vm (k3 hw).2] at hm1) k1' k2' (hv.inj b e q b' e' q' h1 hw h2 h3 h4 hne) (by
      rcases hlv with hlv | hlv
      · exact .inl ⟨(k3' hlv.1).1, by have := hlv.2; rwa [vm (k3' hlv.1).2] at this⟩
      · right; have := (k5' 0 hlv).1; omega)
theorem Step.view {ρ : Ren} {μ μ1 : Mu} {H H1 H2 : Heap} {w w1 : World} (h : Step μ H w μ1 H1 w1) (hv : View ρ H1 H2) (hid : ∀ b, b < H.length → ∀ q, ρ b q = (b, q, 0)) (hlen : H.length ≤ H2.length) : Step μ H w (μ1.via ρ) H2 w1 := by
  refine ⟨h.os, h.tape, h.output, h.size, h.frame, fun b hb => ?_, hlen, hv.hrel h.hrel, fun b e q hb hw hq hm => ?_⟩
  · rw [← h.mu b hb]
    funext q
    exact Mu.via_id μ1 (hid b hb q)
  · obtain ⟨e1, k1, k2, k3, _⟩ := hv.rows b e hb q hq
    have vm : (μ1.via ρ b q).m = (μ1 (ρ b q).1 (ρ b q).2.1).m := by simp only [Mu.via, (k3 hw).2]; cases (μ1 (ρ b q).1 (ρ b q).2.1).m <;> simp
    exact h.fresh _ e1 _ k1 (k3 hw).1 k2 (by rwa [vm] at hm)

/-! ### a function's contract -/
def Tri (P : Program) (f : FuncId) (args : List DV) (H : Heap) (v : DV) (H' : Heap) : Prop :=
  ∀ (μ : Mu) (w : World) (cargs : Array Value), HRel μ H w → L2 (VRel H.length μ) args cargs.toList →
    Calls P f cargs w fun e w' => ∃ μ' v', e = .returned v' ∧ VRel H'.length μ' v v' ∧ Step μ H w μ' H' w'
end Go.Proofs.YtkpojkhedmeneaaE
