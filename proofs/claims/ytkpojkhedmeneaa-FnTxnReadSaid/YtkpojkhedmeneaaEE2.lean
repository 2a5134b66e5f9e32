/- A part of the proof of a law of the given program: the logic of runs over laid-out memory. No condition of its own. -/
import Derived.Test.YtkpojkhedmeneaaEE1
namespace Go.Proofs.YtkpojkhedmeneaaE
open Go.RowKit

/-! ### what is known of the types -/
inductive TK where
  | int (k : IntKind)
  | bool
  | str
  | ptr (e : TypeId)
  | slice (e : TypeId)
  | struct (fs : List (TypeId × Nat))
  | func
  | other
def TK.ok (P : Program) (t : TypeId) : TK → Prop
  | .int k => P.underlying t = some (.int k)
  | .bool => P.underlying t = some .bool
  | .str => P.underlying t = some .string
  | .ptr e => P.underlying t = some (.pointer e)
  | .slice e => P.underlying t = some (.slice e)
  | .struct fs => ∃ fields : Array Field, P.underlying t = some (.struct fields) ∧ fields.toList.map (fun f => (f.type, f.offset)) = fs
  | .func => ∃ a b c, P.underlying t = some (.func a b c)
  | .other => False
def TK.agg : TK → Bool
  | .struct _ => true
  | _ => false
structure TI where
  size : Nat
  bytes : Nat
  zero : List DV
  kind : TK
structure TOk1 (P : Program) (t : TypeId) (i : TI) : Prop where
  und : i.kind.ok P t
  len : i.zero.length = i.size
  info : ∃ info z, P.info? t = some info ∧ info.size = i.size ∧ info.bytes = i.bytes ∧ info.zero = some z ∧ ∀ n μ, L2 (Leaf n μ) i.zero z.cells.toList
abbrev Tab := TypeId → Option TI
def TOk (P : Program) (T : Tab) : Prop := ∀ t i, T t = some i → TOk1 P t i
section
variable {P : Program} {t : TypeId} {i : TI}
theorem TOk1.sizeOf (h : TOk1 P t i) (w : World) : (sizeOf t).run P w = .ok i.size w := by
  obtain ⟨info, z, h1, h2, _⟩ := h.info
  simp [Go.sizeOf, typeInfo, h1, h2]
theorem TOk1.typeInfo (h : TOk1 P t i) (w : World) : ∃ info, (typeInfo t).run P w = .ok info w ∧ info.size = i.size ∧ info.bytes = i.bytes := by
  obtain ⟨info, z, h1, h2, h3, _⟩ := h.info
  exact ⟨info, by simp [Go.typeInfo, h1], h2, h3⟩
theorem TOk1.isAgg (h : TOk1 P t i) (w : World) : (isAgg t).run P w = .ok i.kind.agg w := by
  have hu := h.und
  cases hk : i.kind <;> rw [hk] at hu <;> simp only [TK.ok] at hu
  case struct fs => obtain ⟨f, hf, _⟩ := hu; simp [Go.isAgg, run_underlying hf, TK.agg]
  case func => obtain ⟨a, b, c, hf⟩ := hu; simp [Go.isAgg, run_underlying hf, TK.agg]
  all_goals simp [Go.isAgg, run_underlying hu, TK.agg]
theorem TOk1.zero (h : TOk1 P t i) (w : World) : ∃ z, (zeroValue t).run P w = .ok z w ∧ ∀ n μ, L2 (Leaf n μ) i.zero z.cells.toList := by
  obtain ⟨info, z, h1, h2, h3, h4, h5⟩ := h.info
  exact ⟨z, by simp [Go.zeroValue, Go.typeInfo, h1, h4], h5⟩
theorem TOk1.und_some (h : TOk1 P t i) : (P.underlying t).isSome = true := by
  have hu := h.und
  cases hk : i.kind <;> rw [hk] at hu <;> simp only [TK.ok] at hu
  case struct fs => obtain ⟨f, hf, _⟩ := hu; simp [hf]
  case func => obtain ⟨a, b, c, hf⟩ := hu; simp [hf]
  all_goals simp [hu]
end
theorem elem_slice {P : Program} {t e : TypeId} (h : P.underlying t = some (.slice e)) : P.elem t = e := by simp [Program.elem, h]
theorem und_slice {P : Program} {t e : TypeId} (h : P.underlying t = some (.slice e)) : P.underlying t = some (.slice (P.elem t)) := by rw [elem_slice h]; exact h

/-! ### operands -/
def ofLeaf : Value → DV
  | .int k n => .int k n
  | .bool b => .bool b
  | .string s => .str s
  | .pointer none => .nilp
  | .slice none 0 0 => .nils
  | _ => .any
def ofV : Value → DV
  | .agg vs => .agg (vs.toList.map ofLeaf)
  | .tuple vs => if vs.size = 0 then .tup [] else .any
  | v => ofLeaf v
def ev (r : List DV) : Operand → DV
  | .tmp t => r.getD t (.tup [])
  | .const v => ofV v
  | .func f => .fn f []
  | .global _ => .any
def put (r : List DV) (dst : Option Tmp) (v : DV) : List DV :=
  match dst with
  | some d => r.set d v
  | none => r
theorem ofLeaf_ok (n : Nat) (μ : Mu) (v : Value) : Leaf n μ (ofLeaf v) v := by
  unfold ofLeaf
  split <;> simp [Leaf]
theorem Leaf.elem {n : Nat} {μ : Mu} {x : DV} {v : Value} (h : Leaf n μ x v) : Elem n μ x v := by
  cases x <;> first | exact h | exact h.elim
theorem Elem.val {n : Nat} {μ : Mu} {x : DV} {v : Value} (h : Elem n μ x v) : VRel n μ x v := by
  cases x <;> first | exact h | exact h.elim
theorem Leaf.val {n : Nat} {μ : Mu} {x : DV} {v : Value} (h : Leaf n μ x v) : VRel n μ x v := h.elem.val
theorem undef_ok (n : Nat) (μ : Mu) : VRel n μ (.tup []) undef := ⟨#[], rfl, trivial⟩
theorem ofV_ok (n : Nat) (μ : Mu) (v : Value) : VRel n μ (ofV v) v := by
  unfold ofV
  split
  · rename_i vs
    refine ⟨vs, rfl, ?_⟩
    generalize vs.toList = l
    induction l with
    | nil => trivial
    | cons x l ih => exact ⟨ofLeaf_ok n μ x, ih⟩
  · rename_i vs
    split
    · rename_i h
      obtain rfl : vs = #[] := Array.eq_empty_of_size_eq_zero h
      exact ⟨#[], rfl, trivial⟩
    · exact trivial
  · exact (ofLeaf_ok n μ v).val
theorem ev_ok {n : Nat} {μ : Mu} {r : List DV} {a : Act} (h : L2 (VRel n μ) r a.tmps.toList) (x : Operand) : VRel n μ (ev r x) (a.eval x) := by
  cases x with
  | tmp t =>
    simp only [ev, Act.eval]
    cases hr : r[t]? with
    | some d =>
      obtain ⟨v, hv, k⟩ := h.get hr
      have : a.tmps[t]? = some v := by simpa using hv
      simp [List.getD, hr, Array.getD_eq_getD_getElem?, this, k]
    | none =>
      have hl := h.length
      have : a.tmps[t]? = none := by
        rw [List.getElem?_eq_none_iff] at hr
        simp at hl ⊢; omega
      simp only [List.getD, hr, Option.getD_none, Array.getD_eq_getD_getElem?, this]
      exact undef_ok n μ
  | const v => exact ofV_ok n μ v
  | func f => exact ⟨by simp, by simp [Act.eval]⟩
  | global g => exact trivial
theorem put_ok {n : Nat} {μ : Mu} {r : List DV} {a : Act} (h : L2 (VRel n μ) r a.tmps.toList) {x : DV} {v : Value} (hx : VRel n μ x v) (dst : Option Tmp) :
    L2 (VRel n μ) (put r dst x) (a.put dst v).tmps.toList := by
  cases dst with
  | none => exact h
  | some d =>
    simp only [put, Act.put, Array.toList_setIfInBounds]
    exact h.set hx d
theorem put_defers (a : Act) (dst : Option Tmp) (v : Value) : (a.put dst v).defers = a.defers := by cases dst <;> rfl

/-! ### one operation -/
def OpT (P : Program) (o : Oper) (r : List DV) (H : Heap) (v : DV) (H' : Heap) : Prop :=
  ∀ (μ : Mu) (w : World) (a : Act), HRel μ H w → L2 (VRel H.length μ) r a.tmps.toList →
    o.wp P a w (fun a' w' => ∃ μ' v', a' = a.put o.dst v' ∧ VRel H'.length μ' v v' ∧ Step μ H w μ' H' w') (fun _ _ _ => False)
theorem Oper.wp_q {P : Program} {o : Oper} {a : Act} {w : World} {K : Act → World → Prop} {Q : Exit → Act → World → Prop} (h : o.wp P a w K (fun _ _ _ => False)) : o.wp P a w K Q := by
  unfold Oper.wp at *
  generalize (execOp a.eval o).run P w = x at *
  cases x with
  | ok n w' =>
    cases n <;> simp only [Oper.upon] at h ⊢ <;> first | exact h | skip
    exact h.mono fun e w'' he => by
      cases e with
      | returned v => exact he
      | panicked c => exact he.elim
      | outgrown => obtain ⟨_, _, k⟩ := he; exact k.elim
  | halt x w' => cases x <;> simp only [Oper.upon] at h ⊢ <;> first | exact h | exact h.elim
theorem OpT.val {P : Program} {o : Oper} {r : List DV} {H : Heap} {v : DV}
    (h : ∀ (μ : Mu) (w : World) (a : Act), HRel μ H w → L2 (VRel H.length μ) r a.tmps.toList → ∃ v', (execOp a.eval o).run P w = .ok (.value v') w ∧ VRel H.length μ v v') : OpT P o r H v H := by
  intro μ w a hH hr
  obtain ⟨v', h1, h2⟩ := h μ w a hH hr
  unfold Oper.wp
  rw [h1]
  exact ⟨μ, v', rfl, h2, Step.refl hH⟩

/-! ### operators -/
def dBin (op : BinOp) (x y : DV) : Option (Prop × DV) :=
  match x, y with
  | .int k a, .int k' b =>
    match op with
    | .shl => some (0 ≤ b ∧ b ≤ k.bits, .int k (k.wrap (a * 2 ^ b.toNat)))
    | .shr => some (0 ≤ b ∧ b ≤ k.bits, .int k (a / 2 ^ b.toNat))
    | .add => if k = k' then some (True, .int k (k.wrap (a + b))) else none
    | .sub => if k = k' then some (True, .int k (k.wrap (a - b))) else none
    | .mul => if k = k' then some (True, .int k (k.wrap (a * b))) else none
    | .quo => if k = k' then some (b ≠ 0, .int k (k.wrap (a.tdiv b))) else none
    | .rem => if k = k' then some (b ≠ 0, .int k (a.tmod b)) else none
    | .and => if k = k' then some (True, .int k (bits .and k a b)) else none
    | .or => if k = k' then some (True, .int k (bits .or k a b)) else none
    | .xor => if k = k' then some (True, .int k (bits .xor k a b)) else none
    | .andNot => if k = k' then some (True, .int k (bits .andNot k a b)) else none
    | .eql => if k = k' then some (True, .bool (decide (a = b))) else none
    | .neq => if k = k' then some (True, .bool (decide (a ≠ b))) else none
    | .lss => if k = k' then some (True, .bool (decide (a < b))) else none
    | .leq => if k = k' then some (True, .bool (decide (a ≤ b))) else none
    | .gtr => if k = k' then some (True, .bool (decide (b < a))) else none
    | .geq => if k = k' then some (True, .bool (decide (b ≤ a))) else none
  | .str a, .str b =>
    match op with
    | .add => some (a.size + b.size ≤ 9223372036854775807, .str (a ++ b))
    | .eql => some (True, .bool (decide (a = b)))
    | .neq => some (True, .bool (decide (a ≠ b)))
    | _ => none
  | _, _ => none
theorem str_eq (a b : ByteArray) : (a.toList == b.toList) = decide (a = b) := by
  rw [ByteArray.toList_eq, ByteArray.toList_eq]
  obtain ⟨⟨x⟩⟩ := a
  obtain ⟨⟨y⟩⟩ := b
  by_cases h : x = y <;> simp [h]
theorem dBin_ok {P : Program} {n : Nat} {μ : Mu} {op : BinOp} {t : TypeId} {ox oy : Operand} {x y v : DV} {q : Prop} {xv yv : Value} (h : dBin op x y = some (q, v)) (hq : q) (hx : VRel n μ x xv) (hy : VRel n μ y yv) (w : World) :
    ∃ v', ((do eqGuard op t ox oy xv yv; binOp op t xv yv : Sem Value)).run P w = .ok v' w ∧ VRel n μ v v' := by
  unfold dBin at h
  split at h
  · rename_i k a k' b
    obtain rfl : xv = .int k a := hx
    obtain rfl : yv = .int k' b := hy
    have hg : eqGuard op t ox oy (.int k a) (.int k' b) = pure () := eqGuard_at_int ..
    rw [hg]
    cases op <;> simp only at h
    case shl =>
      obtain ⟨rfl, rfl⟩ := Prod.mk.inj (Option.some.inj h)
      exact ⟨_, by simp [binOp_shl, shift_shl _ _ _ _ hq.1 hq.2], rfl⟩
    case shr =>
      obtain ⟨rfl, rfl⟩ := Prod.mk.inj (Option.some.inj h)
      exact ⟨_, by simp [binOp_shr, shift_shr _ _ _ _ hq.1 hq.2], rfl⟩
    all_goals
      split at h
      case isFalse => cases h
      rename_i hk
      subst hk
      obtain ⟨rfl, rfl⟩ := Prod.mk.inj (Option.some.inj h)
    case h_1.add.isTrue => exact ⟨_, by simp [binOp_add, Op.intArith], rfl⟩
    case h_1.sub.isTrue => exact ⟨_, by simp [binOp_sub, Op.intArith], rfl⟩
    case h_1.mul.isTrue => exact ⟨_, by simp [binOp_mul, Op.intArith], rfl⟩
    case h_1.quo.isTrue => exact ⟨_, by simp [binOp_quo, Op.intDiv, hq], rfl⟩
    case h_1.rem.isTrue => exact ⟨_, by simp [binOp_rem, Op.intDiv, hq], rfl⟩
    case h_1.and.isTrue => exact ⟨_, by simp [binOp_and, intBits_and], rfl⟩
    case h_1.or.isTrue => exact ⟨_, by simp [binOp_or, intBits_or], rfl⟩
    case h_1.xor.isTrue => exact ⟨_, by simp [binOp_xor, intBits_xor], rfl⟩
    case h_1.andNot.isTrue => exact ⟨_, by simp [binOp_andNot, intBits_andNot], rfl⟩
    case h_1.eql.isTrue => exact ⟨.bool (a == b), by simp [binOp_eql], by show Value.bool _ = Value.bool _; congr 1⟩
    case h_1.neq.isTrue => exact ⟨.bool (a != b), by simp [binOp_neq], by show Value.bool _ = Value.bool _; congr 1; by_cases e : a = b <;> simp [e]⟩
    case h_1.lss.isTrue => exact ⟨_, by simp [binOp_lss], rfl⟩
    case h_1.leq.isTrue => exact ⟨_, by simp [binOp_leq], rfl⟩
    case h_1.gtr.isTrue => exact ⟨_, by simp [binOp_gtr], rfl⟩
    case h_1.geq.isTrue => exact ⟨_, by simp [binOp_geq], rfl⟩
  · rename_i a b
    obtain rfl : xv = .string a := hx
    obtain rfl : yv = .string b := hy
    have hg : eqGuard op t ox oy (.string a) (.string b) = pure () := eqGuard_at_string ..
    rw [hg]
    cases op <;> simp only at h <;> first | cases h | skip
    case h_2.add.refl => exact ⟨_, by simp [binOp_string_add, run_string_add_sum _ _ _ hq], rfl⟩
    case h_2.eql.refl => exact ⟨.bool (decide (a = b)), by simp [binOp_string_eql, str_eq], rfl⟩
    case h_2.neq.refl => exact ⟨.bool (!decide (a = b)), by simp [binOp_string_neq, str_eq], by show Value.bool _ = Value.bool _; congr 1; by_cases e : a = b <;> simp [e]⟩
  · cases h
end Go.Proofs.YtkpojkhedmeneaaE
