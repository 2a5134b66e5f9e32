/- A part of the proof of a law of the given program: contracts of functions. No condition of its own. -/
import Derived.Test.YtaklcaejeaiagaaEBP2
namespace Go.Proofs.YtaklcaejeaiagaaE
open Go.Proofs
set_option maxRecDepth 100000
theorem kp_out {t : TT} {k : Int} (hk : ¬ (0 ≤ k ∧ k < 40)) : t.kp k = -1 := by unfold TT.kp; rw [if_neg (fun hh => hk hh.2)]
theorem kp_same {s t : TT} (hs : s.ok) (ht : t.ok) {k : Int} (h : ∀ i, i < s.n → s.a i ≤ k → k < s.b i → ∃ j, j < t.n ∧ t.a j ≤ k ∧ k < t.b j ∧ t.c j = s.c i) : s.kp k = t.kp k := by
  by_cases hk : 0 ≤ k ∧ k < 40
  · obtain ⟨i, h1, h2, h3⟩ := ok_cover hs hk
    obtain ⟨j, h4, h5, h6, h7⟩ := h i h1 h2 h3
    rw [kp_at hs h1 ⟨h2, h3⟩, kp_at ht h4 ⟨h5, h6⟩, h7]
  · rw [kp_out hk, kp_out hk]
theorem mov_eq {t : TT} {key to : Int} (h : cX t.e (t.movC key to) = 0) : t.mov key to = ⟨t.e + 1, t.m, t.n, t.a, t.b, mvR (t.idx key) to t.c⟩ := by
  unfold TT.mov TT.chg; rw [if_pos h]
theorem mov_idx {t : TT} {key to : Int} (h : cX t.e (t.movC key to) = 0) : ¬ t.idx key < 0 := by
  have h2 := (cX_zero h).2
  unfold TT.movC mvC at h2
  intro hh
  rw [if_pos hh] at h2; omega
theorem mov_in {t : TT} (hok : t.ok) {key to : Int} (h : cX t.e (t.movC key to) = 0) {i : Nat} (hi : i < t.n) (h1 : t.a i ≤ key ∧ key < t.b i) {k : Int} (hk : t.a i ≤ k ∧ k < t.b i) : (t.mov key to).kp k = to := by
  have h2 := kp_at (mov_ok hok key to) (i := i) (key := k) (by rw [mov_eq h]; exact hi) (by rw [mov_eq h]; exact hk)
  rw [h2, mov_eq h]
  simp only [mvR, idx_of hok hi h1, Int.toNat_natCast, if_true]
theorem mov_out {t : TT} (hok : t.ok) {key to : Int} (h : cX t.e (t.movC key to) = 0) {i : Nat} (hi : i < t.n) (h1 : t.a i ≤ key ∧ key < t.b i) {k : Int} (hk : k < t.a i ∨ t.b i ≤ k) : t.kp k = (t.mov key to).kp k := by
  refine kp_same hok (mov_ok hok key to) fun j hj h2 h3 => ⟨j, by rw [mov_eq h]; exact hj, by rw [mov_eq h]; exact h2, by rw [mov_eq h]; exact h3, ?_⟩
  rw [mov_eq h]
  simp only [mvR, idx_of hok hi h1, Int.toNat_natCast]
  rw [if_neg]
  intro he
  subst he
  omega
theorem chg_e {t x : TT} {cd : Int} (h : cX t.e cd = 0) : t.chg cd x = ⟨t.e + 1, x.m, x.n, x.a, x.b, x.c⟩ := by unfold TT.chg; rw [if_pos h]
/-- moved back. -/
theorem back_code {t : TT} (hok : t.ok) {key to : Int} (h : cX t.e (t.movC key to) = 0) : cX (t.mov key to).e ((t.mov key to).movC key (t.kp key)) = 4 ∨ (cX (t.mov key to).e ((t.mov key to).movC key (t.kp key)) = 0 ∧ ∀ k, ((t.mov key to).mov key (t.kp key)).kp k = t.kp k) := by
  have hx := mov_ok hok key to
  have hn := mov_idx h
  obtain ⟨i1, i2, i3⟩ := ok_idx hok hn
  have hxi : (t.mov key to).idx key = ((t.idx key).toNat : Nat) := idx_of hx (by rw [mov_eq h]; exact i1) (by rw [mov_eq h]; exact ⟨i2, i3⟩)
  have hk : t.kp key = t.c (t.idx key).toNat := kp_at hok i1 ⟨i2, i3⟩
  have hne : t.c (t.idx key).toNat ≠ to := by
    have h2 := (cX_zero h).2
    unfold TT.movC mvC at h2
    rw [if_neg hn] at h2
    split at h2
    · split at h2
      · omega
      · assumption
    · omega
  have hxm : (t.mov key to).m = t.m := by rw [mov_eq h]
  have hI : hasI t.m (t.c (t.idx key).toNat) := (has_same _ _ hok.2.1).2 (hok.2.2.2.1 _ i1).2.2.2
  have hxc : (t.mov key to).c (t.idx key).toNat = to := by rw [mov_eq h]; simp [mvR]
  have hcode : (t.mov key to).movC key (t.kp key) = 0 := by
    unfold TT.movC mvC
    rw [hxi, hxm, hk, if_neg (by omega), if_pos hI, Int.toNat_natCast, hxc, if_neg (Ne.symm hne)]
  by_cases h9 : (t.mov key to).e = 9999
  · left; unfold cX; rw [if_pos h9]
  · right
    have h0 : cX (t.mov key to).e ((t.mov key to).movC key (t.kp key)) = 0 := by unfold cX; rw [if_neg h9, hcode]
    refine ⟨h0, fun k => ?_⟩
    refine kp_same (mov_ok hx key _) hok fun j hj h2 h3 => ?_
    rw [mov_eq h0] at hj h2 h3 ⊢
    simp only at hj h2 h3 ⊢
    have e1 : (t.mov key to).n = t.n ∧ (t.mov key to).a = t.a ∧ (t.mov key to).b = t.b ∧ (t.mov key to).c = mvR (t.idx key) to t.c := by rw [mov_eq h]; exact ⟨rfl, rfl, rfl, rfl⟩
    rw [e1.1] at hj
    rw [e1.2.1] at h2
    rw [e1.2.2.1] at h3
    refine ⟨j, hj, h2, h3, ?_⟩
    rw [hxi, e1.2.2.2, hk]
    simp only [mvR, Int.toNat_natCast]
    split
    · rename_i hj2; rw [hj2]
    · rfl
end Go.Proofs.YtaklcaejeaiagaaE
