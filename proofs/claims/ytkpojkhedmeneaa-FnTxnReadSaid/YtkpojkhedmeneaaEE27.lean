/- A part of the proof of a law of the given program: the logic of runs over laid-out memory. No condition of its own. -/
import Derived.Test.YtkpojkhedmeneaaEE26
namespace Go.Proofs.YtkpojkhedmeneaaE
open Go.RowKit
/-! ### structs of numbers, booleans and strings, compared -/
inductive LV where
  | num (k : IntKind) (n : Int)
  | bit (b : Bool)
  | txt (s : ByteArray)
deriving DecidableEq
def LV.dv : LV → DV
  | .num k n => .int k n
  | .bit b => .bool b
  | .txt s => .str s
def LV.val : LV → Value
  | .num k n => .int k n
  | .bit b => .bool b
  | .txt s => .string s
def LV.lit : LV → Lit
  | .num k n => .int k n
  | .bit b => .bool b
  | .txt s => .string s.data.toList
theorem LV.lit_inj {x y : LV} (h : x.lit = y.lit) : x = y := by
  cases x <;> cases y <;> simp only [LV.lit] at h <;> first | cases h | skip
  · rfl
  · rfl
  · rename_i s t
    have : s.data.toList = t.data.toList := by injection h
    have : s = t := by
      cases s; cases t
      simp only at this
      congr 1
      exact Array.toList_inj.1 this
    rw [this]
theorem rel_lvs {n : Nat} {μ : Mu} : ∀ {l : List LV} {vs : List Value}, L2 (Leaf n μ) (l.map LV.dv) vs → vs = l.map LV.val
  | [], [], _ => rfl
  | x :: l, v :: vs, h => by
    have h1 : v = x.val := by
      have := h.1
      cases x <;> exact this
    rw [h1, rel_lvs h.2]; rfl
  | [], _ :: _, h => h.elim
  | _ :: _, [], h => h.elim
theorem rel_agglv {n : Nat} {μ : Mu} {l : List LV} {v : Value} (h : VRel n μ (.agg (l.map LV.dv)) v) : v = .agg (l.map LV.val).toArray := by
  obtain ⟨vs, rfl, h⟩ := h
  have := rel_lvs h
  rw [← this]
theorem lvs_inj : ∀ {l m : List LV}, l.map LV.lit = m.map LV.lit ↔ l = m
  | [], [] => by simp
  | [], _ :: _ => by simp
  | _ :: _, [] => by simp
  | a :: l, b :: m => by
    simp only [List.map_cons, List.cons.injEq]
    rw [lvs_inj]
    exact ⟨fun h => ⟨LV.lit_inj h.1, h.2⟩, fun h => ⟨by rw [h.1], h.2⟩⟩
/-- What must hold of a struct's type and of two of its values, that they may be compared. -/
structure CmpS (P : Program) (t : TypeId) (l : List LV) : Prop where
  key : P.keyTypeAt 2 t = true
  guard : P.eqGuardType P.depth t = false
  lits : P.keyLits 2 t (l.map LV.val) = some (l.map LV.lit)
  formed : (Value.agg (l.map LV.val).toArray).formed P t = true
theorem run_eqlS {P : Program} (w : World) {t : TypeId} {l m : List LV} (hl : CmpS P t l) (hm : CmpS P t m) : (Op.equal t (.agg (l.map LV.val).toArray) (.agg (m.map LV.val).toArray)).run P w = .ok (decide (l = m)) w := by
  obtain ⟨r, h1, h2⟩ := run_equalIn_deep (P := P) 9998 2 t hl.key w 2 2 (.agg (l.map LV.val).toArray) (.agg (m.map LV.val).toArray) _ _ hl.formed hm.formed (by simpa [Value.cells] using hl.lits) (by simpa [Value.cells] using hm.lits)
  rw [lvs_inj] at h2
  have h3 : (Op.equal t (.agg (l.map LV.val).toArray) (.agg (m.map LV.val).toArray)).run P w = .ok r w := h1
  rw [h3]
  have hr : r = decide (l = m) := by
    cases r
    · simp only [Bool.false_eq_true, false_iff] at h2; simp [h2]
    · simp only [true_iff] at h2; simp [h2]
  rw [hr]
theorem OpT.eqlS {P : Program} {t ty' ty : TypeId} {d : Option Tmp} {x y : Operand} {pos : String} {after : Array Edge} {g : Option (Nat × Bool)} {r : List DV} {H : Heap} (l m : List LV) (hl : CmpS P t l) (hm : CmpS P t m)
    (hx : ev r x = .agg (l.map LV.dv)) (hy : ev r y = .agg (m.map LV.dv)) : OpT P ⟨d, .binOp .eql t x y ty', ty, pos, after, g⟩ r H (.bool (decide (l = m))) H := by
  refine .pure rfl fun μ w a hH hr => ?_
  have hxv := ev_ok hr x
  have hyv := ev_ok hr y
  rw [hx] at hxv
  rw [hy] at hyv
  refine ⟨.bool (decide (l = m)), ?_, rfl⟩
  have hg : (eqGuard .eql t x y (a.eval x) (a.eval y)).run P w = .ok () w := by
    rw [rel_agglv hxv, rel_agglv hyv]; simp [eqGuard, hl.guard]
  have h := run_eqlS w hl hm
  rw [← rel_agglv hxv, ← rel_agglv hyv] at h
  have hb : (binOp .eql t (a.eval x) (a.eval y)).run P w = .ok (.bool (decide (l = m))) w := by
    rw [rel_agglv hxv, rel_agglv hyv] at h ⊢
    simp only [binOp, Sem.run_bind, h, Result.andThen_ok]
    rfl
  simp [execOp, hg, hb]
theorem OpT.neqL {P : Program} {t ty' ty : TypeId} {d : Option Tmp} {x y : Operand} {pos : String} {after : Array Edge} {g : Option (Nat × Bool)} {r : List DV} {H : Heap} (l m : List LV) (hl : CmpS P t l) (hm : CmpS P t m)
    (hx : ev r x = .agg (l.map LV.dv)) (hy : ev r y = .agg (m.map LV.dv)) : OpT P ⟨d, .binOp .neq t x y ty', ty, pos, after, g⟩ r H (.bool (!decide (l = m))) H := by
  refine .pure rfl fun μ w a hH hr => ?_
  have hxv := ev_ok hr x
  have hyv := ev_ok hr y
  rw [hx] at hxv
  rw [hy] at hyv
  refine ⟨.bool (!decide (l = m)), ?_, rfl⟩
  have hg : (eqGuard .neq t x y (a.eval x) (a.eval y)).run P w = .ok () w := by
    rw [rel_agglv hxv, rel_agglv hyv]; simp [eqGuard, hl.guard]
  have h := run_eqlS w hl hm
  rw [← rel_agglv hxv, ← rel_agglv hyv] at h
  have hb : (binOp .neq t (a.eval x) (a.eval y)).run P w = .ok (.bool (!decide (l = m))) w := by
    rw [rel_agglv hxv, rel_agglv hyv] at h ⊢
    simp only [binOp, Sem.run_bind, h, Result.andThen_ok]
    rfl
  simp [execOp, hg, hb]
end Go.Proofs.YtkpojkhedmeneaaE
