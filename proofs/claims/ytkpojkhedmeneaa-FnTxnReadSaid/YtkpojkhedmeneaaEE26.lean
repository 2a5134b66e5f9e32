/- A part of the proof of a law of the given program: the logic of runs over laid-out memory. No condition of its own. -/
import Derived.Test.YtkpojkhedmeneaaEE25
namespace Go.Proofs.YtkpojkhedmeneaaE
open Go.RowKit
/-! ### another name for a row that is only read -/
theorem HRel.alias {μ : Mu} {H : Heap} {w : World} (hH : HRel μ H w) {b q : Nat} {e : Ent} (hb : look H b = some e) (hw : e.w = false) (hq : q < e.m) :
    HRel (μ.ext H.length (μ b q)) (H ++ [some (.one false (e.row q))]) w := by
  have hlen : (H ++ [some (Ent.one false (e.row q))]).length = H.length + 1 := by simp
  have hsame := μ.ext_same H.length (μ b q)
  have f : ∀ {c x}, look (H ++ [some (Ent.one false (e.row q))]) c = some x → (look H c = some x ∧ c < H.length) ∨ (c = H.length ∧ x = .one false (e.row q)) := by
    intro c x h
    rw [look_append] at h
    split at h
    · exact .inl ⟨h, ‹_›⟩
    · rw [look_one] at h
      split at h
      · exact .inr ⟨by omega, (Option.some.inj h).symm⟩
      · cases h
  refine ⟨fun c x hc p hp => ?_, fun c x hc hx p hp => ?_, fun c x p c' x' p' hc hx hp hm hc' hp' hne hl => ?_⟩
  · rw [hlen]
    rcases f hc with ⟨h1, h2⟩ | ⟨rfl, rfl⟩
    · rw [hsame c h2]
      exact (hH.rows c x h1 p hp).same hsame (by omega) (fun _ => rfl)
    · have hp0 : p = 0 := by have : p < 1 := hp; omega
      subst hp0
      rw [Mu.ext_at]
      exact (hH.rows b e hb q hq).same hsame (by omega) (fun _ => rfl)
  · rcases f hc with ⟨h1, h2⟩ | ⟨rfl, rfl⟩
    · rw [hsame c h2]; exact hH.own c x h1 hx p hp
    · cases hx
  · rcases f hc with ⟨h1, h2⟩ | ⟨rfl, rfl⟩
    · rw [hsame c h2] at hm ⊢
      rcases f hc' with ⟨h3, h4⟩ | ⟨rfl, rfl⟩
      · unfold Lv at hl
        rw [hsame c' h4] at hl ⊢
        exact hH.inj c x p c' x' p' h1 hx hp hm h3 hp' hne hl
      · rw [Mu.ext_at]
        have hbc : c ≠ b := by
          intro hcb
          subst hcb
          rw [hb] at h1
          cases h1
          rw [hw] at hx; cases hx
        refine hH.inj c x p b e q h1 hx hp hm hb hq (.inl hbc) (.inr ?_)
        rcases hl with hl | hl
        · cases hl.1
        · exact hl
    · cases hx
theorem D.alias {P : Program} {n0 : Nat} {t : List Item} {s : St} {Qd : St → Prop} {b q i len cap : Nat} {e : Ent} (k : Nat) (hb : look s.H b = some e) (hw : e.w = false) (hq : q < e.m) (hk : s.r[k]? = some (.sl b q i len cap))
    (h : D P n0 t ⟨s.r.set k (.sl s.H.length 0 i len cap), s.H ++ [some (.one false (e.row q))]⟩ Qd) : D P n0 t s Qd := by
  intro μ0 H0 w0 h0 a w ha
  obtain ⟨μ, hr, hs⟩ := ha.ex
  have hsame := μ.ext_same s.H.length (μ b q)
  have hH := hs.hrel.alias hb hw hq
  have hlen : (s.H ++ [some (Ent.one false (e.row q))]).length = s.H.length + 1 := by simp
  have hst : Step μ s.H w (μ.ext s.H.length (μ b q)) (s.H ++ [some (.one false (e.row q))]) w := by
    refine ⟨rfl, rfl, rfl, Nat.le_refl _, fun _ _ _ => rfl, hsame, by rw [hlen]; omega, hH, fun c x p hc hx hp hm => .inr ?_⟩
    rw [look_append] at hc
    split at hc
    · rename_i hlt
      rw [hsame c hlt] at hm ⊢
      exact ⟨c, x, p, hc, hx, hp, hm, rfl⟩
    · rw [look_one] at hc
      split at hc
      · cases hc; cases hx
      · cases hc
  refine h μ0 H0 w0 h0 a w ⟨⟨_, ?_, hs.trans hst⟩, ha.defers⟩
  have hr2 : L2 (VRel (s.H.length + 1) (μ.ext s.H.length (μ b q))) s.r a.tmps.toList := hr.mono fun _ _ => VRel.same hsame (by omega)
  show L2 (VRel (s.H ++ [some (Ent.one false (e.row q))]).length _) _ _
  rw [hlen]
  obtain ⟨v, hv, hvr⟩ := hr.get hk
  have hnew : VRel (s.H.length + 1) (μ.ext s.H.length (μ b q)) (.sl s.H.length 0 i len cap) v := by
    obtain ⟨h1, h2⟩ := hvr
    refine ⟨by omega, ?_⟩
    rcases h2 with h2 | ⟨ad, c, g1, g2, g3, g4⟩
    · exact .inl h2
    · refine .inr ⟨ad, c, g1, g2, g3, ?_⟩
      rcases g4 with g4 | ⟨g4, g5⟩
      · exact .inl g4
      · refine .inr ⟨?_, ?_⟩
        · rw [g4]; simp [Mu.loc, Mu.ext_at]
        · rw [Mu.ext_at]; exact g5
  have : a.tmps.toList = a.tmps.toList.set k v := by
    refine List.ext_getElem? fun j => ?_
    rw [List.getElem?_set]
    split
    · rename_i hj; subst hj
      rw [hv]
      have := (List.getElem?_eq_some_iff.1 hv).1
      rw [if_pos this]
    · rfl
  rw [this]
  exact hr2.set hnew k
end Go.Proofs.YtkpojkhedmeneaaE
