/- A part of the proof of a law of the given program: contracts of functions. No condition of its own. -/
import Derived.Test.YtaklcaejeaiagaaEBT22
namespace Go.Proofs.YtaklcaejeaiagaaE
open Go.Proofs
set_option maxRecDepth 100000
structure TT where
  e : Int
  m : Int
  n : Nat
  a : Nat → Int
  b : Nat → Int
  c : Nat → Int
def TT.ok (t : TT) : Prop := okT t.e t.m t.n t.a t.b t.c
noncomputable def TT.idx (t : TT) (key : Int) : Int := Classical.choose (idx_ex key t.n t.a t.b)
theorem TT.idx_is (t : TT) (key : Int) : IsIdx key t.n t.a t.b (t.idx key) := Classical.choose_spec (idx_ex key t.n t.a t.b)
/-- a change: what it says, and what it makes of a table. -/
def TT.chg (t : TT) (cd : Int) (x : TT) : TT := if cX t.e cd = 0 then ⟨t.e + 1, x.m, x.n, x.a, x.b, x.c⟩ else t
noncomputable def TT.splC (t : TT) (key : Int) : Int := spC (t.idx key) key t.n t.a
noncomputable def TT.mrgC (t : TT) (key : Int) : Int := mgC (t.idx key) key t.a t.c
noncomputable def TT.movC (t : TT) (key to : Int) : Int := mvC (t.idx key) t.m to t.c
def TT.joiC (t : TT) (nd : Int) : Int := jnC t.m nd
noncomputable def TT.own (t : TT) (nd : Int) : Bool := @decide (∃ i, i < t.n ∧ t.c i = nd) (Classical.propDecidable _)
noncomputable def TT.leaC (t : TT) (nd : Int) : Int := lvC t.m nd (t.own nd)
noncomputable def TT.spl (t : TT) (key : Int) : TT := t.chg (t.splC key) ⟨0, t.m, t.n + 1, ins (t.idx key).toNat (t.a (t.idx key).toNat) key t.a, ins (t.idx key).toNat key (t.b (t.idx key).toNat) t.b, ins (t.idx key).toNat (t.c (t.idx key).toNat) (t.c (t.idx key).toNat) t.c⟩
noncomputable def TT.mrg (t : TT) (key : Int) : TT := t.chg (t.mrgC key) ⟨0, t.m, t.n - 1, del (t.idx key).toNat t.a, mgB (t.idx key).toNat t.b, del (t.idx key).toNat t.c⟩
noncomputable def TT.mov (t : TT) (key to : Int) : TT := t.chg (t.movC key to) ⟨0, t.m, t.n, t.a, t.b, mvR (t.idx key) to t.c⟩
def TT.joi (t : TT) (nd : Int) : TT := t.chg (t.joiC nd) ⟨0, t.m + 2 ^ nd.toNat, t.n, t.a, t.b, t.c⟩
noncomputable def TT.lea (t : TT) (nd : Int) : TT := t.chg (t.leaC nd) ⟨0, t.m - 2 ^ nd.toNat, t.n, t.a, t.b, t.c⟩
theorem cX_zero {e cd : Int} (h : cX e cd = 0) : e ≠ 9999 ∧ cd = 0 := by
  unfold cX at h; split at h <;> simp_all
theorem ok_idx {t : TT} (h : t.ok) {key : Int} (hr : ¬ t.idx key < 0) : (t.idx key).toNat < t.n ∧ t.a (t.idx key).toNat ≤ key ∧ key < t.b (t.idx key).toNat := by
  rcases t.idx_is key with ⟨h1, _⟩ | ⟨i, h1, h2, h3, _⟩
  · omega
  · have hg := h.2.2.2.1 i h1
    have hb : -9223372036854775808 ≤ t.b i - 1 := by
      have := h.2.2.2.1
      have h0 : ∀ j, j < t.n → 0 ≤ t.a j ∧ 0 < t.b j := by
        intro j
        induction j with
        | zero => intro hj; have := (this 0 hj); simp [good, prv] at this; omega
        | succ j ih => intro hj; have h5 := ih (by omega); have h6 := this (j + 1) hj; simp [good, prv] at h6; omega
      have := h0 i h1; omega
    have hw : IntKind.i64.wrap (t.b i - 1) = t.b i - 1 := by
      have : t.b i ≤ 40 := hg.2.2.1
      rw [IntKind.wrap_i64]; omega
    obtain ⟨g1, g2⟩ := h3
    rw [hw] at g2
    rw [h2]
    simp only [Int.toNat_natCast]
    exact ⟨h1, g1, by omega⟩
theorem chg_ok {t x : TT} {cd : Int} (h : t.ok) (hx : cX t.e cd = 0 → okT 1 x.m x.n x.a x.b x.c) : (t.chg cd x).ok := by
  unfold TT.chg
  split
  · rename_i h1
    obtain ⟨h2, h3, h4, h5⟩ := hx h1
    refine ⟨?_, h3, h4, h5⟩
    have := h.1
    have := (cX_zero h1).1
    constructor <;> simp <;> omega
  · exact h
theorem ok1 {t : TT} (h : t.ok) {n : Nat} {a b c : Nat → Int} (hn : 1 ≤ n ∧ n ≤ 8) (hg : ∀ i, i < n → good t.m a b c i) (hp : prv b n = 40) : okT 1 t.m n a b c := ⟨by omega, h.2.1, hn, hg, hp⟩
theorem spl_ok {t : TT} (h : t.ok) (key : Int) : (t.spl key).ok := by
  refine chg_ok h fun h1 => ?_
  have h2 := (cX_zero h1).2
  unfold TT.splC spC at h2
  split at h2
  · omega
  · rename_i h3
    split at h2
    · omega
    · rename_i h4
      have hr : ¬ t.idx key < 0 := fun hh => h3 (.inl hh)
      obtain ⟨k1, k2, k3⟩ := ok_idx h hr
      generalize (t.idx key).toNat = r at *
      have k4 : t.a r ≠ key := fun hh => h3 (.inr hh)
      refine ok1 h (by simp only; omega) (fun i hi => ?_) ?_
      · have hg := h.2.2.2.1
        simp only at hi
        by_cases c1 : i < r
        · have c2 : i - 1 < r := by omega
          have := hg i (by omega)
          simpa [good, prv, ins, c1, c2] using this
        · by_cases c2 : i = r
          · subst c2
            have := hg i k1
            have c3 : i ≠ 0 → i - 1 < i := by omega
            simp only [good, prv, ins, Nat.lt_irrefl, if_false, if_true] at this ⊢
            refine ⟨?_, by omega, by omega, this.2.2.2⟩
            by_cases c4 : i = 0
            · simpa [c4] using this.1
            · have c5 : i - 1 < i := by omega
              simpa [c4, c5] using this.1
          · by_cases c3 : i = r + 1
            · subst c3
              have := hg r k1
              have c4 : ¬ r + 1 < r := by omega
              simp only [good, prv, ins, c4, if_false, if_true, Nat.add_sub_cancel, Nat.lt_irrefl] at this ⊢
              refine ⟨by simp, ?_, ?_, ?_⟩
              · simp; omega
              · simp; omega
              · simpa using this.2.2.2
            · have := hg (i - 1) (by omega)
              have c4 : ¬ i = 0 := by omega
              have c5 : ¬ i - 1 = 0 := by omega
              have c6 : ¬ i - 1 < r := by omega
              have c7 : ¬ i - 1 = r := by omega
              simp only [good, prv, ins, c1, c2, c3, c4, c5, c6, c7, if_false] at this ⊢
              refine ⟨?_, this.2⟩
              split
              · rename_i c8; rw [this.1]; congr 1; omega
              · exact this.1
      · have hp := h.2.2.2.2
        simp only [prv, ins] at hp ⊢
        have c1 : ¬ t.n = 0 := by omega
        have c2 : ¬ t.n + 1 = 0 := by omega
        have c3 : ¬ t.n + 1 - 1 < r := by omega
        have c4 : ¬ t.n + 1 - 1 = r := by omega
        rw [if_neg c1] at hp
        rw [if_neg c2, if_neg c3, if_neg c4]
        split
        · rename_i c5; rw [← hp]; congr 1; omega
        · rw [← hp]; congr 1
theorem mrg_ok {t : TT} (h : t.ok) (key : Int) : (t.mrg key).ok := by
  refine chg_ok h fun h1 => ?_
  have h2 := (cX_zero h1).2
  unfold TT.mrgC mgC at h2
  split at h2
  · omega
  · rename_i h3
    split at h2
    · omega
    · rename_i h4
      have hr : ¬ t.idx key < 0 := fun hh => h3 (.inl (by omega))
      obtain ⟨k1, k2, k3⟩ := ok_idx h hr
      have hr1 : 1 ≤ (t.idx key).toNat := by
        have : ¬ t.idx key < 1 := fun hh => h3 (.inl hh)
        omega
      have h5 : t.c ((t.idx key).toNat - 1) = t.c (t.idx key).toNat := Classical.byContradiction fun hh => h4 hh
      clear h3 h4 hr h1 h2
      generalize (t.idx key).toNat = r at *
      have hg := h.2.2.2.1
      refine ok1 h (by have := h.2.2.1; simp only; omega) (fun i hi => ?_) ?_
      · simp only at hi
        by_cases c1 : i < r
        · have c2 : i - 1 < r := by omega
          have c3 : i = 0 ∨ ¬ i - 1 = r - 1 := by omega
          by_cases c4 : i = r - 1
          · have g1 := hg i (by omega)
            have g2 := hg r k1
            subst c4
            have c5 : r - 1 - 1 < r := by omega
            have c6 : ¬ r = 0 := by omega
            simp only [good, prv, mgB, del, upd, c1, c2, if_true, c6, if_false] at g1 g2 ⊢
            refine ⟨?_, by omega, by omega, g1.2.2.2⟩
            by_cases c7 : r - 1 = 0
            · simpa [c7] using g1.1
            · have c8 : ¬ r - 1 - 1 = r - 1 := by omega
              rw [if_neg c7] at g1
              rw [if_neg c7, if_neg c8]
              exact g1.1
          · have g1 := hg i (by omega)
            simp only [good, prv, mgB, del, upd, c1, c2, if_true, c4, if_false] at g1 ⊢
            refine ⟨?_, g1.2⟩
            by_cases c7 : i = 0
            · simpa [c7] using g1.1
            · have c8 : ¬ i - 1 = r - 1 := by omega
              rw [if_neg c7] at g1
              rw [if_neg c7, if_neg c8]
              exact g1.1
        · have g1 := hg (i + 1) (by omega)
          have c2 : ¬ i = 0 := by omega
          have c3 : ¬ i + 1 = 0 := by omega
          have c4 : ¬ i + 1 = r - 1 := by omega
          simp only [good, prv, mgB, del, upd, c1, c2, c3, c4, if_false, Nat.add_sub_cancel] at g1 ⊢
          refine ⟨?_, g1.2⟩
          by_cases c5 : i = r
          · subst c5
            have c6 : i - 1 < i := by omega
            simp only [c6, if_true]
            exact g1.1
          · have c6 : ¬ i - 1 < r := by omega
            have c7 : ¬ i - 1 + 1 = r - 1 := by omega
            have c8 : i - 1 + 1 = i := by omega
            rw [if_neg c6, if_neg c7, c8]
            exact g1.1
      · have hp := h.2.2.2.2
        have c1 : ¬ t.n = 0 := by omega
        have c2 : ¬ t.n - 1 = 0 := by omega
        simp only [prv, mgB, del, upd] at hp ⊢
        rw [if_neg c1] at hp
        rw [if_neg c2]
        by_cases c3 : t.n - 1 - 1 < r
        · have c4 : r = t.n - 1 := by omega
          rw [if_pos c3, if_pos (by omega)]
          rw [← hp, c4]
        · rw [if_neg c3, if_neg (by omega), ← hp]
          congr 1; omega
theorem mov_ok {t : TT} (h : t.ok) (key to : Int) : (t.mov key to).ok := by
  refine chg_ok h fun h1 => ?_
  have h2 := (cX_zero h1).2
  unfold TT.movC mvC at h2
  split at h2
  · omega
  · split at h2
    · rename_i h3
      have hs := (has_same t.m to h.2.1).1 h3
      refine ok1 h h.2.2.1 (fun i hi => ?_) h.2.2.2.2
      have hg := h.2.2.2.1 i hi
      refine ⟨hg.1, hg.2.1, hg.2.2.1, ?_⟩
      simp only [mvR]
      split
      · exact hs
      · exact hg.2.2.2
    · omega
theorem joi_has : ∀ (m : _root_.Fin 32) (k q : _root_.Fin 5), ¬ hasS (m.1 : Int) (k.1 : Int) → ((m.1 : Int) + 2 ^ k.1 ≤ 31 ∧ (hasS ((m.1 : Int) + 2 ^ k.1) (q.1 : Int) ↔ hasS (m.1 : Int) (q.1 : Int) ∨ q = k)) := by decide
theorem lea_has : ∀ (m : _root_.Fin 32) (k q : _root_.Fin 5), hasS (m.1 : Int) (k.1 : Int) → (0 ≤ (m.1 : Int) - 2 ^ k.1 ∧ (hasS ((m.1 : Int) - 2 ^ k.1) (q.1 : Int) ↔ hasS (m.1 : Int) (q.1 : Int) ∧ q ≠ k)) := by decide
theorem hasS_zero (q : Int) : ¬ hasS 0 q := by
  rintro ⟨h1, h2⟩
  obtain ⟨k, rfl⟩ : ∃ k : Nat, q = k := ⟨q.toNat, by omega⟩
  have key : ∀ k : _root_.Fin 5, ¬ hasS 0 (k.1 : Int) := by decide
  exact key ⟨k, by omega⟩ ⟨h1, h2⟩
theorem joi_hasS {m nd q : Int} (hm : 1 ≤ m ∧ m ≤ 31) (hn : 0 ≤ nd ∧ nd ≤ 4) (h : ¬ hasS m nd) : m + 2 ^ nd.toNat ≤ 31 ∧ (hasS (m + 2 ^ nd.toNat) q ↔ hasS m q ∨ q = nd) := by
  obtain ⟨k, rfl⟩ : ∃ k : Nat, nd = k := ⟨nd.toNat, by omega⟩
  obtain ⟨j, rfl⟩ : ∃ k : Nat, m = k := ⟨m.toNat, by omega⟩
  simp only [Int.toNat_natCast]
  refine ⟨(joi_has ⟨j, by omega⟩ ⟨k, by omega⟩ ⟨k, by omega⟩ h).1, ?_⟩
  by_cases hq : 0 ≤ q ∧ q ≤ 4
  · obtain ⟨z, rfl⟩ : ∃ k : Nat, q = k := ⟨q.toNat, by omega⟩
    have := (joi_has ⟨j, by omega⟩ ⟨k, by omega⟩ ⟨z, by omega⟩ h).2
    rw [this]
    simp only [_root_.Fin.mk.injEq]
    constructor <;> (rintro (h1 | h1); exact .inl h1; exact .inr (by omega))
  · constructor
    · intro h1; exact absurd h1.1 hq
    · rintro (h1 | h1)
      · exact absurd h1.1 hq
      · exact absurd ⟨by omega, by omega⟩ hq
theorem lea_hasS {m nd q : Int} (hm : 1 ≤ m ∧ m ≤ 31) (h : hasS m nd) : 0 ≤ m - 2 ^ nd.toNat ∧ (hasS (m - 2 ^ nd.toNat) q ↔ hasS m q ∧ q ≠ nd) := by
  have hn := h.1
  obtain ⟨k, rfl⟩ : ∃ k : Nat, nd = k := ⟨nd.toNat, by omega⟩
  obtain ⟨j, rfl⟩ : ∃ k : Nat, m = k := ⟨m.toNat, by omega⟩
  simp only [Int.toNat_natCast]
  refine ⟨(lea_has ⟨j, by omega⟩ ⟨k, by omega⟩ ⟨k, by omega⟩ h).1, ?_⟩
  by_cases hq : 0 ≤ q ∧ q ≤ 4
  · obtain ⟨z, rfl⟩ : ∃ k : Nat, q = k := ⟨q.toNat, by omega⟩
    have := (lea_has ⟨j, by omega⟩ ⟨k, by omega⟩ ⟨z, by omega⟩ h).2
    rw [this]
    simp only [ne_eq, _root_.Fin.mk.injEq]
    constructor <;> (rintro ⟨h1, h2⟩; exact ⟨h1, by omega⟩)
  · constructor
    · intro h1; exact absurd h1.1 hq
    · rintro ⟨h1, h2⟩; exact absurd h1.1 hq
theorem joi_ok {t : TT} (h : t.ok) (nd : Int) : (t.joi nd).ok := by
  unfold TT.joi TT.chg
  split
  · rename_i h1
    have h2 := (cX_zero h1).2
    unfold TT.joiC jnC at h2
    split at h2
    · omega
    · rename_i h3
      split at h2
      · omega
      · rename_i h4
        have h3 : 0 ≤ nd ∧ nd ≤ 4 := Classical.byContradiction h3
        have hp := pow_le nd.toNat (by omega)
        refine ⟨?_, ?_, h.2.2.1, fun i hi => ?_, h.2.2.2.2⟩
        · have := h.1; have := (cX_zero h1).1
          constructor <;> simp <;> omega
        · have := joi_hasS (q := 0) h.2.1 h3 h4
          have := h.2.1
          simp only; omega
        · have hg := h.2.2.2.1 i hi
          exact ⟨hg.1, hg.2.1, hg.2.2.1, (joi_hasS h.2.1 h3 h4).2.2 (.inl hg.2.2.2)⟩
  · exact h
theorem lea_ok {t : TT} (h : t.ok) (nd : Int) : (t.lea nd).ok := by
  unfold TT.lea TT.chg
  split
  · rename_i h1
    have h2 := (cX_zero h1).2
    unfold TT.leaC lvC at h2
    split at h2
    · omega
    · rename_i h3
      split at h2
      · omega
      · rename_i h4
        have h3 : hasS t.m nd := Classical.byContradiction h3
        have ho : ∀ i, i < t.n → t.c i ≠ nd := fun i hi hc => h4 (by simp only [TT.own, decide_eq_true_eq]; exact ⟨i, hi, hc⟩)
        have hp := pow_le nd.toNat (by have := h3.1; omega)
        have h0 : 0 ≤ t.m - 2 ^ nd.toNat := (lea_hasS (q := 0) h.2.1 h3).1
        have hgd : ∀ i, i < t.n → hasS (t.m - 2 ^ nd.toNat) (t.c i) := fun i hi => (lea_hasS h.2.1 h3).2.2 ⟨(h.2.2.2.1 i hi).2.2.2, ho i hi⟩
        refine ⟨?_, ?_, h.2.2.1, fun i hi => ?_, h.2.2.2.2⟩
        · have := h.1; have := (cX_zero h1).1
          constructor <;> simp <;> omega
        · have := h.2.1
          have h5 : t.m - 2 ^ nd.toNat ≠ 0 := fun hz => by
            have := hgd 0 (by have := h.2.2.1; omega)
            rw [hz] at this
            exact hasS_zero _ this
          simp only; omega
        · have hg := h.2.2.2.1 i hi
          exact ⟨hg.1, hg.2.1, hg.2.2.1, hgd i hi⟩
  · exact h
end Go.Proofs.YtaklcaejeaiagaaE
