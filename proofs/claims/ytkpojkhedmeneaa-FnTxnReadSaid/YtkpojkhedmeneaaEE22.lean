/- A part of the proof of a law of the given program: the logic of runs over laid-out memory. No condition of its own. -/
import Derived.Test.YtkpojkhedmeneaaEE21
namespace Go.Proofs.YtkpojkhedmeneaaE
open Go.RowKit
/-- A row without elements may be thought of as a block of its own. -/
theorem D.ghost {P : Program} {n0 : Nat} {t : List Item} {s : St} {Qd : St → Prop} (z : Nat) (f : Nat → List DV) (h : D P n0 t ⟨s.r, s.H ++ [some (.one true (.arr z 0 f))]⟩ Qd) : D P n0 t s Qd := by
  intro μ0 H0 w0 e a w ha
  obtain ⟨μ, hr, hs⟩ := ha.ex
  have k : Step μ s.H w (μ.ext s.H.length ⟨0, 0, z, some 0⟩) (s.H ++ [some (.one true (.arr z 0 f))]) w :=
    Step.add hs.hrel hs.hrel rfl (fun _ _ h => h) rfl rfl rfl (Nat.le_refl _) (fun _ _ _ => rfl) (.inl rfl) ⟨rfl, fun h0 => absurd h0 (by simp [Row.n])⟩
      ⟨0, rfl, fun h0 => absurd h0 (by simp [Row.n]), fun h0 => absurd h0 (by omega)⟩
  exact h μ0 H0 w0 e a w ⟨⟨_, hr.mono fun _ _ => VRel.same (μ.ext_same _ _) (by simp), hs.trans k⟩, ha.defers⟩
end Go.Proofs.YtkpojkhedmeneaaE
