/- A part of the proof of a law of the given program: the logic of runs over laid-out memory. No condition of its own. -/
import Derived.Test.YtkpojkhedmeneaaEE11
namespace Go.Proofs.YtkpojkhedmeneaaE
open Go.RowKit
/-! ### as far as it goes by itself -/
def sel (b : Bool) (A B : Prop) : Prop := (b = true → A) ∧ (b = false → B)
theorem sel_true (A B : Prop) : sel true A B = A := by simp [sel]
theorem sel_false (A B : Prop) : sel false A B = B := by simp [sel]
theorem sel_same (b : Bool) (X : Prop) : sel b X X = X := by cases b <;> simp [sel]
def told (r : List DV) (c : Operand) (b : Bool) : List DV :=
  match c with
  | .tmp d => r.set d (.bool b)
  | _ => r
def run (P : Program) (n0 : Nat) (Qd : St → Prop) (T : Tab) : Nat → List Item → St → Prop
  | 0, t, s => D P n0 t s Qd
  | n + 1, [], s => Qd s
  | n + 1, .blk _ :: t, s => run P n0 Qd T n t s
  | n + 1, .back J :: t, s => J s
  | n + 1, .ops R [] :: t, s => run P n0 Qd T n t s
  | n + 1, .ops R (o :: l) :: t, s =>
    match o.guard with
    | none =>
      match dop T o.op s.r s.H with
      | some (q, v, H') => q ∧ (run P n0 Qd T n (.ops R l :: t) ⟨put s.r o.dst v, H'⟩)
      | none => D P n0 (.ops R (o :: l) :: t) s Qd
    | some (j, want) =>
      match yield R s.r j with
      | some (.bool b) => sel b
          (if want then (match (R[j]?).bind (·.dst) with | some d => run P n0 Qd T n (.ops R ({ o with guard := none } :: l) :: t) ⟨s.r.set d (.bool true), s.H⟩ | none => D P n0 (.ops R (o :: l) :: t) s Qd)
            else (match (R[j]?).bind (·.dst) with | some d => run P n0 Qd T n (.ops R l :: t) ⟨put (s.r.set d (.bool true)) o.dst (.tup []), s.H⟩ | none => D P n0 (.ops R (o :: l) :: t) s Qd))
          (if want then (match (R[j]?).bind (·.dst) with | some d => run P n0 Qd T n (.ops R l :: t) ⟨put (s.r.set d (.bool false)) o.dst (.tup []), s.H⟩ | none => D P n0 (.ops R (o :: l) :: t) s Qd)
            else (match (R[j]?).bind (·.dst) with | some d => run P n0 Qd T n (.ops R ({ o with guard := none } :: l) :: t) ⟨s.r.set d (.bool false), s.H⟩ | none => D P n0 (.ops R (o :: l) :: t) s Qd))
      | some (.tup []) => run P n0 Qd T n (.ops R l :: t) ⟨put s.r o.dst (.tup []), s.H⟩
      | _ => D P n0 (.ops R (o :: l) :: t) s Qd
  | n + 1, .code .skip :: t, s => run P n0 Qd T n t s
  | n + 1, .code (.label _) :: t, s => run P n0 Qd T n t s
  | n + 1, .code (.seq a b) :: t, s => run P n0 Qd T n (.code a :: .code b :: t) s
  | n + 1, .code (.block id c) :: t, s => run P n0 Qd T n (.code c :: .blk id :: t) s
  | n + 1, .code (.cond c a b) :: t, s =>
    match ev s.r c with
    | .bool x => sel x (run P n0 Qd T n (.code a :: t) ⟨told s.r c true, s.H⟩) (run P n0 Qd T n (.code b :: t) ⟨told s.r c false, s.H⟩)
    | _ => D P n0 (.code (.cond c a b) :: t) s Qd
  | n + 1, .code (.exit id) :: t, s =>
    match exitT id t with
    | some t' => run P n0 Qd T n t' s
    | none => D P n0 (.code (.exit id) :: t) s Qd
  | n + 1, .code .ret :: t, s => Qd s
  | n + 1, .code (.region id R false) :: t, s => run P n0 Qd T n (.ops R R.toList :: t) s
  | n + 1, .code (.region id R true) :: t, s => D P n0 (.code (.region id R true) :: t) s Qd
  | n + 1, .code (.loop c) :: t, s => D P n0 (.code (.loop c) :: t) s Qd
  | n + 1, .code (.scope c) :: t, s => D P n0 (.code (.scope c) :: t) s Qd
  | n + 1, .code (.goto c) :: t, s => D P n0 (.code (.goto c) :: t) s Qd
  | n + 1, .code (.rangeFunc a b c d) :: t, s => D P n0 (.code (.rangeFunc a b c d) :: t) s Qd
  | n + 1, .code (.refuse c) :: t, s => D P n0 (.code (.refuse c) :: t) s Qd
section
variable {P : Program} {n0 : Nat} {Qd : St → Prop}
/-- A register that reads as a bool may be told. -/
theorem D.tell {t : List Item} {s : St} {d : Nat} {b : Bool} (h : s.r.getD d (.tup []) = .bool b) (k : D P n0 t ⟨s.r.set d (.bool b), s.H⟩ Qd) : D P n0 t s Qd := by
  intro μ0 H0 w0 e a w ha
  obtain ⟨μ, h1, h2⟩ := ha.ex
  refine k μ0 H0 w0 e a w ⟨⟨μ, ?_, h2⟩, ha.defers⟩
  rw [List.getD_eq_getElem?_getD] at h
  have : s.r.set d (.bool b) = s.r := by
    cases hd : s.r[d]? with
    | none => rw [hd] at h; cases h
    | some x =>
      rw [hd] at h
      simp only [Option.getD_some] at h
      subst h
      apply List.ext_getElem?
      intro i
      rw [List.getElem?_set]
      split
      · rename_i hi
        subst hi
        split
        · exact hd.symm
        · rename_i hl; rw [List.getElem?_eq_none (by omega)]
      · rfl
  simp only [this]
  exact h1
theorem D.telc {t : List Item} {s : St} {c : Operand} {b : Bool} (h : ev s.r c = .bool b) (k : D P n0 t ⟨told s.r c b, s.H⟩ Qd) : D P n0 t s Qd := by
  cases c with
  | tmp d => exact D.tell h k
  | _ => exact k
theorem run_ok {T : Tab} (hT : TOk P T) : ∀ (n : Nat) (t : List Item) (s : St), run P n0 Qd T n t s → D P n0 t s Qd
  | 0, t, s, h => h
  | n + 1, [], s, h => D.nil h
  | n + 1, .blk _ :: t, s, h => D.blk (run_ok hT n t s h)
  | n + 1, .back J :: t, s, h => D.back h
  | n + 1, .ops R [] :: t, s, h => D.opsNil (run_ok hT n t s h)
  | n + 1, .ops R (o :: l) :: t, s, h => by
    simp only [run] at h
    split at h
    · rename_i hg
      split at h
      · rename_i q v H' hd
        exact D.op hg (dop_ok hT hd h.1) (run_ok hT n _ _ h.2)
      · exact h
    · rename_i j want hg
      split at h
      · rename_i b hy
        have hy' := hy
        unfold yield at hy'
        cases hd : (R[j]?).bind (·.dst) with
        | none => rw [hd] at hy'; cases hy'
        | some d =>
          rw [hd] at hy' h
          simp only [Option.map_some, Option.some.injEq] at hy'
          simp only at h
          refine D.opGuard hg hy (fun hb => ?_) (fun hb => ?_)
          · subst hb
            cases b with
            | true =>
              have := h.1 rfl
              simp only [if_true] at this
              exact D.tell hy' (run_ok hT n _ _ this)
            | false =>
              have := h.2 rfl
              simp only [Bool.false_eq_true, if_false] at this
              exact D.tell hy' (run_ok hT n _ _ this)
          · have hset : ∀ b', b = b' → (put s.r o.dst (.tup [])) = put s.r o.dst (.tup []) := fun _ _ => rfl
            have key : ∀ {K : List Item} {st : St}, s.r.set d (.bool b) = s.r := by
              intro _ _
              rw [List.getD_eq_getElem?_getD] at hy'
              cases hx : s.r[d]? with
              | none => rw [hx] at hy'; cases hy'
              | some x =>
                rw [hx] at hy'
                simp only [Option.getD_some] at hy'
                subst hy'
                apply List.ext_getElem?
                intro i
                rw [List.getElem?_set]
                split
                · rename_i hi
                  subst hi
                  split
                  · exact hx.symm
                  · rename_i hl; rw [List.getElem?_eq_none (by omega)]
                · rfl
            have key := @key [] s
            cases b with
            | true =>
              cases want with
              | true => exact absurd rfl hb
              | false =>
                have := h.1 rfl
                simp only [Bool.false_eq_true, if_false] at this
                rw [key] at this
                exact run_ok hT n _ _ this
            | false =>
              cases want with
              | false => exact absurd rfl hb
              | true =>
                have := h.2 rfl
                simp only [if_true] at this
                rw [key] at this
                exact run_ok hT n _ _ this
      · rename_i hy
        exact D.opGuardUndef hg hy (run_ok hT n _ _ h)
      · exact h
  | n + 1, .code .skip :: t, s, h => D.skip (run_ok hT n t s h)
  | n + 1, .code (.label _) :: t, s, h => D.label (run_ok hT n t s h)
  | n + 1, .code (.seq a b) :: t, s, h => D.seq (run_ok hT n _ s h)
  | n + 1, .code (.block id c) :: t, s, h => D.block (run_ok hT n _ s h)
  | n + 1, .code (.cond c a b) :: t, s, h => by
    simp only [run] at h
    split at h
    · rename_i x hx
      refine D.cond hx (fun e => ?_) (fun e => ?_)
      · subst e; exact D.telc hx (run_ok hT n _ _ (h.1 rfl))
      · subst e; exact D.telc hx (run_ok hT n _ _ (h.2 rfl))
    · exact h
  | n + 1, .code (.exit id) :: t, s, h => by
    simp only [run] at h
    split at h
    · rename_i t' ht
      exact D.exit ht (run_ok hT n _ s h)
    · exact h
  | n + 1, .code .ret :: t, s, h => D.ret h
  | n + 1, .code (.region id R false) :: t, s, h => D.region (run_ok hT n _ s h)
  | n + 1, .code (.region id R true) :: t, s, h => h
  | n + 1, .code (.loop c) :: t, s, h => h
  | n + 1, .code (.scope c) :: t, s, h => h
  | n + 1, .code (.goto c) :: t, s, h => h
  | n + 1, .code (.rangeFunc a b c d) :: t, s, h => h
  | n + 1, .code (.refuse c) :: t, s, h => h
end
section
variable {P : Program} {n0 : Nat} {Qd : St → Prop} {T : Tab} {n : Nat} {t : List Item} {s : St}
theorem run_nil : run P n0 Qd T (n + 1) [] s = Qd s := by simp only [run]
theorem run_blk {i : Nat} : run P n0 Qd T (n + 1) (.blk i :: t) s = run P n0 Qd T n t s := by simp only [run]
theorem run_back {J : St → Prop} : run P n0 Qd T (n + 1) (.back J :: t) s = J s := by simp only [run]
theorem run_opsNil {R : Array Oper} : run P n0 Qd T (n + 1) (.ops R [] :: t) s = run P n0 Qd T n t s := by simp only [run]
theorem run_op {R : Array Oper} {l : List Oper} {d : Option Tmp} {op : Op} {ty : TypeId} {pos : String} {after : Array Edge} {r : List DV} {H : Heap} :
    run P n0 Qd T (n + 1) (.ops R (⟨d, op, ty, pos, after, none⟩ :: l) :: t) ⟨r, H⟩ = (match dop T op r H with
      | some (q, v, H') => q ∧ (run P n0 Qd T n (.ops R l :: t) ⟨put r d v, H'⟩)
      | none => D P n0 (.ops R (⟨d, op, ty, pos, after, none⟩ :: l) :: t) ⟨r, H⟩ Qd) := by simp only [run]
theorem run_opT {R : Array Oper} {l : List Oper} {d : Option Tmp} {op : Op} {ty : TypeId} {pos : String} {after : Array Edge} {j : Nat} {r : List DV} {H : Heap} :
    run P n0 Qd T (n + 1) (.ops R (⟨d, op, ty, pos, after, some (j, true)⟩ :: l) :: t) ⟨r, H⟩ = (match (generalizing := false) yield R r j with
      | some (.bool b) => match (R[j]?).bind (·.dst) with
        | some e => sel b (run P n0 Qd T n (.ops R (⟨d, op, ty, pos, after, none⟩ :: l) :: t) ⟨r.set e (.bool true), H⟩) (run P n0 Qd T n (.ops R l :: t) ⟨put (r.set e (.bool false)) d (.tup []), H⟩)
        | none => D P n0 (.ops R (⟨d, op, ty, pos, after, some (j, true)⟩ :: l) :: t) ⟨r, H⟩ Qd
      | some (.tup []) => run P n0 Qd T n (.ops R l :: t) ⟨put r d (.tup []), H⟩
      | _ => D P n0 (.ops R (⟨d, op, ty, pos, after, some (j, true)⟩ :: l) :: t) ⟨r, H⟩ Qd) := by
  simp only [run, if_true]
  split
  · split <;> first | rfl | exact sel_same _ _
  · rfl
  · rfl
theorem run_opF {R : Array Oper} {l : List Oper} {d : Option Tmp} {op : Op} {ty : TypeId} {pos : String} {after : Array Edge} {j : Nat} {r : List DV} {H : Heap} :
    run P n0 Qd T (n + 1) (.ops R (⟨d, op, ty, pos, after, some (j, false)⟩ :: l) :: t) ⟨r, H⟩ = (match (generalizing := false) yield R r j with
      | some (.bool b) => match (R[j]?).bind (·.dst) with
        | some e => sel b (run P n0 Qd T n (.ops R l :: t) ⟨put (r.set e (.bool true)) d (.tup []), H⟩) (run P n0 Qd T n (.ops R (⟨d, op, ty, pos, after, none⟩ :: l) :: t) ⟨r.set e (.bool false), H⟩)
        | none => D P n0 (.ops R (⟨d, op, ty, pos, after, some (j, false)⟩ :: l) :: t) ⟨r, H⟩ Qd
      | some (.tup []) => run P n0 Qd T n (.ops R l :: t) ⟨put r d (.tup []), H⟩
      | _ => D P n0 (.ops R (⟨d, op, ty, pos, after, some (j, false)⟩ :: l) :: t) ⟨r, H⟩ Qd) := by
  simp only [run, Bool.false_eq_true, if_false]
  split
  · split <;> first | rfl | exact sel_same _ _
  · rfl
  · rfl
theorem run_skip : run P n0 Qd T (n + 1) (.code .skip :: t) s = run P n0 Qd T n t s := by simp only [run]
theorem run_label {l : Nat} : run P n0 Qd T (n + 1) (.code (.label l) :: t) s = run P n0 Qd T n t s := by simp only [run]
theorem run_seq {a b : Code} : run P n0 Qd T (n + 1) (.code (.seq a b) :: t) s = run P n0 Qd T n (.code a :: .code b :: t) s := by simp only [run]
theorem run_block {i : Nat} {a : Code} : run P n0 Qd T (n + 1) (.code (.block i a) :: t) s = run P n0 Qd T n (.code a :: .blk i :: t) s := by simp only [run]
theorem run_cond {c : Operand} {a b : Code} {r : List DV} {H : Heap} : run P n0 Qd T (n + 1) (.code (.cond c a b) :: t) ⟨r, H⟩ = (match ev r c with
    | .bool x => sel x (run P n0 Qd T n (.code a :: t) ⟨told r c true, H⟩) (run P n0 Qd T n (.code b :: t) ⟨told r c false, H⟩)
    | _ => D P n0 (.code (.cond c a b) :: t) ⟨r, H⟩ Qd) := by simp only [run]
theorem run_exit {i : Nat} : run P n0 Qd T (n + 1) (.code (.exit i) :: t) s = (match exitT i t with
    | some t' => run P n0 Qd T n t' s
    | none => D P n0 (.code (.exit i) :: t) s Qd) := by simp only [run]
theorem run_ret : run P n0 Qd T (n + 1) (.code .ret :: t) s = Qd s := by simp only [run]
theorem run_region {i : Nat} {R : Array Oper} : run P n0 Qd T (n + 1) (.code (.region i R false) :: t) s = run P n0 Qd T n (.ops R R.toList :: t) s := by simp only [run]
theorem run_drawn {i : Nat} {R : Array Oper} : run P n0 Qd T (n + 1) (.code (.region i R true) :: t) s = D P n0 (.code (.region i R true) :: t) s Qd := by simp only [run]
theorem run_loop {a : Code} : run P n0 Qd T (n + 1) (.code (.loop a) :: t) s = D P n0 (.code (.loop a) :: t) s Qd := by simp only [run]
theorem run_scope {a : Code} : run P n0 Qd T (n + 1) (.code (.scope a) :: t) s = D P n0 (.code (.scope a) :: t) s Qd := by simp only [run]
end
end Go.Proofs.YtkpojkhedmeneaaE
