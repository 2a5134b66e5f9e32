/- A part of the proof of a law of the given program: the logic of runs over laid-out memory. No condition of its own. -/
import Derived.Test.YtkpojkhedmeneaaEE22
import Derived.DeepKeys
namespace Go.Proofs.YtkpojkhedmeneaaE
open Go.RowKit
/-! ### structs of numbers, compared -/
theorem rel_ints {n : Nat} {μ : Mu} : ∀ {l : List Int} {vs : List Value}, L2 (Leaf n μ) (l.map DV.i64) vs → vs = l.map (Value.int .i64)
  | [], [], _ => rfl
  | a :: l, v :: vs, h => by
    have h1 : v = .int .i64 a := h.1
    rw [h1, rel_ints h.2]; rfl
  | [], _ :: _, h => h.elim
  | _ :: _, [], h => h.elim
theorem rel_agg {n : Nat} {μ : Mu} {l : List Int} {v : Value} (h : VRel n μ (.agg (l.map DV.i64)) v) : v = .agg (l.map (Value.int .i64)).toArray := by
  obtain ⟨vs, rfl, h⟩ := h
  have := rel_ints h
  rw [← this]
theorem lits_inj : ∀ {l m : List Int}, l.map (Lit.int .i64) = m.map (Lit.int .i64) ↔ l = m
  | [], [] => by simp
  | [], _ :: _ => by simp
  | _ :: _, [] => by simp
  | a :: l, b :: m => by simp only [List.map_cons, List.cons.injEq, Lit.int.injEq, true_and]; rw [lits_inj]
structure IntS (P : Program) (t : TypeId) (k : Nat) : Prop where
  key : P.keyTypeAt 2 t = true
  guard : P.eqGuardType P.depth t = false
  lits : ∀ l : List Int, l.length = k → (∀ a ∈ l, (Lit.int .i64 a).wf = true) → P.keyLits 2 t (l.map (Value.int .i64)) = some (l.map (Lit.int .i64))
  formed : ∀ l : List Int, l.length = k → (Value.agg (l.map (Value.int .i64)).toArray).formed P t = true
theorem run_neqS {P : Program} (w : World) {t : TypeId} {k : Nat} (hs : IntS P t k) {l m : List Int} (hl : l.length = k) (hm : m.length = k) (wl : ∀ a ∈ l, (Lit.int .i64 a).wf = true) (wm : ∀ a ∈ m, (Lit.int .i64 a).wf = true) {ox oy : Operand} :
    ((do eqGuard .neq t ox oy (.agg (l.map (Value.int .i64)).toArray) (.agg (m.map (Value.int .i64)).toArray); binOp .neq t (.agg (l.map (Value.int .i64)).toArray) (.agg (m.map (Value.int .i64)).toArray) : Sem Value)).run P w = .ok (.bool (decide (l ≠ m))) w := by
  obtain ⟨r, h1, h2⟩ := run_equalIn_deep (P := P) 9998 2 t hs.key w 2 2 (.agg (l.map (Value.int .i64)).toArray) (.agg (m.map (Value.int .i64)).toArray) _ _ (hs.formed l hl) (hs.formed m hm) (by simpa [Value.cells] using hs.lits l hl wl) (by simpa [Value.cells] using hs.lits m hm wm)
  rw [lits_inj] at h2
  have h3 : (Op.equal t (.agg (l.map (Value.int .i64)).toArray) (.agg (m.map (Value.int .i64)).toArray)).run P w = .ok r w := h1
  have hg : (eqGuard .neq t ox oy (.agg (l.map (Value.int .i64)).toArray) (.agg (m.map (Value.int .i64)).toArray)).run P w = .ok () w := by
    simp [eqGuard, hs.guard]
  have hr : (!r) = decide (l ≠ m) := by
    cases r
    · simp only [Bool.false_eq_true, false_iff] at h2; simp [h2]
    · simp only [true_iff] at h2; simp [h2]
  simp only [Sem.run_bind, hg, Result.andThen_ok, binOp, h3]
  rw [← hr]
  rfl
theorem OpT.neqS {P : Program} {t ty' ty : TypeId} {k : Nat} (hs : IntS P t k) {d : Option Tmp} {x y : Operand} {pos : String} {after : Array Edge} {g : Option (Nat × Bool)} {r : List DV} {H : Heap} {l m : List Int} (hl : l.length = k) (hm : m.length = k) (wl : ∀ a ∈ l, (Lit.int .i64 a).wf = true) (wm : ∀ a ∈ m, (Lit.int .i64 a).wf = true)
    (hx : ev r x = .agg (l.map DV.i64)) (hy : ev r y = .agg (m.map DV.i64)) : OpT P ⟨d, .binOp .neq t x y ty', ty, pos, after, g⟩ r H (.bool (decide (l ≠ m))) H := by
  refine .pure rfl fun μ w a hH hr => ?_
  have hxv := ev_ok hr x
  have hyv := ev_ok hr y
  rw [hx] at hxv
  rw [hy] at hyv
  refine ⟨.bool (decide (l ≠ m)), ?_, rfl⟩
  have h := run_neqS w hs hl hm wl wm (ox := x) (oy := y)
  rw [← rel_agg hxv, ← rel_agg hyv] at h
  simp only [execOp, Sem.run_bind] at h ⊢
  rw [h]; rfl
theorem Dr.neqS {P : Program} {R : Array Oper} {K : List Stp → List DV → Heap → Prop} {i : Nat} {os : List Oper} {r : List DV} {H : Heap} {acc : List Stp} (A : List (List Nat)) (ws : List (Nat × List Nat)) (n0 : Nat) {t ty' ty : TypeId} {k : Nat} (hs : IntS P t k) {d : Option Tmp} {x y : Operand} {pos : String} {after : Array Edge} (l m : List Int) (hl : l.length = k) (hm : m.length = k) (wl : ∀ a ∈ l, (Lit.int .i64 a).wf = true) (wm : ∀ a ∈ m, (Lit.int .i64 a).wf = true)
    (hx : ev r x = .agg (l.map DV.i64)) (hy : ev r y = .agg (m.map DV.i64)) (ho : R[i]? = some ⟨d, .binOp .neq t x y ty', ty, pos, after, none⟩)
    (h : obl n0 (xOf A i 0 n0 acc ++ wX A i ws) (Wof ws i) H (.bool (decide (l ≠ m))) (maskH (xOf A i 0 n0 acc ++ wX A i ws) (Wof ws i) 0 H) ∧
      Dr n0 P R K (i + 1) os (put r d (.bool (decide (l ≠ m)))) (merge (Wof ws i) H (maskH (xOf A i 0 n0 acc ++ wX A i ws) (Wof ws i) 0 H)) (acc ++ [⟨xOf A i 0 n0 acc ++ wX A i ws, Wof ws i, .bool (decide (l ≠ m)), maskH (xOf A i 0 n0 acc ++ wX A i ws) (Wof ws i) 0 H⟩])) :
    Dr n0 P R K i (⟨d, .binOp .neq t x y ty', ty, pos, after, none⟩ :: os) r H acc := by
  have hev := uses_ev ho r
  exact Dr.cons (s := ⟨xOf A i 0 n0 acc ++ wX A i ws, Wof ws i, .bool (decide (l ≠ m)), maskH (xOf A i 0 n0 acc ++ wX A i ws) (Wof ws i) 0 H⟩) ⟨h.1, .inl ⟨trivial, OpT.neqS hs hl hm wl wm (by rw [hev x (by simp [Op.operands]), hx]) (by rw [hev y (by simp [Op.operands]), hy])⟩⟩ h.2
end Go.Proofs.YtkpojkhedmeneaaE
