/- A part of the proof of a law of the given program: the logic of runs over laid-out memory. No condition of its own. -/
import Derived.WalkKit
import Derived.KernelRfl
namespace Go.Proofs.YtaklcaejeaiagaaE
open Go.RowKit

/-! ### lists side by side -/
def L2 {α β : Type} (R : α → β → Prop) : List α → List β → Prop
  | [], [] => True
  | a :: as, b :: bs => R a b ∧ L2 R as bs
  | _, _ => False
section
variable {α β : Type} {R S : α → β → Prop}
theorem L2.length : ∀ {l : List α} {m : List β}, L2 R l m → l.length = m.length
  | [], [], _ => rfl
  | _ :: as, _ :: bs, h => by simp [L2.length h.2]
  | [], _ :: _, h => h.elim
  | _ :: _, [], h => h.elim
theorem L2.get : ∀ {l : List α} {m : List β} {i : Nat} {a : α}, L2 R l m → l[i]? = some a → ∃ b, m[i]? = some b ∧ R a b
  | [], _, i, a, _, h => by simp at h
  | x :: as, b :: bs, 0, a, h, e => ⟨b, rfl, by simp at e; exact e ▸ h.1⟩
  | x :: as, b :: bs, i + 1, a, h, e => by simpa using L2.get (i := i) h.2 (by simpa using e)
  | _ :: _, [], _, _, h, _ => h.elim
theorem L2.get' : ∀ {l : List α} {m : List β} {i : Nat} {b : β}, L2 R l m → m[i]? = some b → ∃ a, l[i]? = some a ∧ R a b
  | [], [], i, a, _, h => by simp at h
  | x :: as, b :: bs, 0, a, h, e => ⟨x, rfl, by simp at e; exact e ▸ h.1⟩
  | x :: as, b :: bs, i + 1, a, h, e => by simpa using L2.get' (i := i) h.2 (by simpa using e)
  | _ :: _, [], _, _, h, _ => h.elim
  | [], _ :: _, _, _, h, _ => h.elim
theorem L2.of : ∀ {l : List α} {m : List β}, l.length = m.length → (∀ (i : Nat) (a : α) (b : β), l[i]? = some a → m[i]? = some b → R a b) → L2 R l m
  | [], [], _, _ => trivial
  | a :: as, b :: bs, hl, h => ⟨h 0 a b rfl rfl, L2.of (by simpa using hl) fun i x y hx hy => h (i + 1) x y (by simpa using hx) (by simpa using hy)⟩
  | [], _ :: _, hl, _ => by simp at hl
  | _ :: _, [], hl, _ => by simp at hl
theorem L2.mono (h : ∀ a b, R a b → S a b) : ∀ {l : List α} {m : List β}, L2 R l m → L2 S l m
  | [], [], _ => trivial
  | _ :: _, _ :: _, k => ⟨h _ _ k.1, L2.mono h k.2⟩
  | [], _ :: _, k => k.elim
  | _ :: _, [], k => k.elim
theorem L2.set {a : α} {b : β} (hab : R a b) : ∀ {l : List α} {m : List β} (i : Nat), L2 R l m → L2 R (l.set i a) (m.set i b)
  | [], [], _, _ => trivial
  | _ :: _, _ :: _, 0, k => ⟨hab, k.2⟩
  | _ :: _, _ :: _, i + 1, k => ⟨k.1, L2.set hab i k.2⟩
  | [], _ :: _, _, k => k.elim
  | _ :: _, [], _, k => k.elim
theorem L2.append {l l' : List α} {m m' : List β} (h : L2 R l m) (h' : L2 R l' m') : L2 R (l ++ l') (m ++ m') := by
  induction l generalizing m with
  | nil => cases m with
    | nil => exact h'
    | cons _ _ => exact h.elim
  | cons a l ih => cases m with
    | nil => exact h.elim
    | cons b m => exact ⟨h.1, ih h.2⟩
theorem L2.drop {l : List α} {m : List β} (h : L2 R l m) (n : Nat) : L2 R (l.drop n) (m.drop n) := by
  refine L2.of (by simp [h.length]) fun i a b ha hb => ?_
  rw [List.getElem?_drop] at ha hb
  obtain ⟨b', hb', r⟩ := h.get ha
  rw [hb] at hb'
  exact Option.some.inj hb' ▸ r
theorem L2.take {l : List α} {m : List β} (h : L2 R l m) (n : Nat) : L2 R (l.take n) (m.take n) := by
  refine L2.of (by simp [h.length]) fun i a b ha hb => ?_
  rw [List.getElem?_take] at ha hb
  split at ha
  · rename_i hi
    rw [if_pos hi] at hb
    obtain ⟨b', hb', r⟩ := h.get ha
    rw [hb] at hb'
    exact Option.some.inj hb' ▸ r
  · cases ha
theorem L2.map {γ : Type} {f : γ → β} {l : List α} {m : List γ} (h : L2 (fun a c => R a (f c)) l m) : L2 R l (m.map f) := by
  induction l generalizing m with
  | nil => cases m with
    | nil => trivial
    | cons _ _ => exact h.elim
  | cons a l ih => cases m with
    | nil => exact h.elim
    | cons b m => exact ⟨h.1, ih h.2⟩
theorem L2.trans {γ : Type} {T : α → β → Prop} {U : β → γ → Prop} {V : α → γ → Prop} (k : ∀ a b c, T a b → U b c → V a c) : ∀ {l : List α} {m : List β} {n : List γ}, L2 T l m → L2 U m n → L2 V l n
  | [], [], [], _, _ => trivial
  | _ :: _, _ :: _, _ :: _, h, h' => ⟨k _ _ _ h.1 h'.1, L2.trans k h.2 h'.2⟩
  | [], _ :: _, _, h, _ => h.elim
  | _ :: _, [], _, h, _ => h.elim
  | [], [], _ :: _, _, h => h.elim
  | _ :: _, _ :: _, [], _, h => h.elim
theorem L2.replicate {a : α} {b : β} (h : R a b) : ∀ n, L2 R (List.replicate n a) (List.replicate n b)
  | 0 => trivial
  | n + 1 => ⟨h, L2.replicate h n⟩
end

/-! ### values, rows, heaps -/
inductive DV where
  | any
  | int (k : IntKind) (n : Int)
  | bool (b : Bool)
  | str (s : ByteArray)
  | nilp
  | ptr (b q i o : Nat)
  | nils
  | sl (b q i len cap : Nat)
  | fn (f : FuncId) (caps : List Nat)
  | agg (l : List DV)
  | tup (l : List DV)
instance : Inhabited DV := ⟨.any⟩
abbrev DV.i64 (n : Int) : DV := .int .i64 n
inductive Row where
  | lst (z : Nat) (xs : List (List DV))
  | arr (z n : Nat) (f : Nat → List DV)
def Row.z : Row → Nat
  | .lst z _ => z
  | .arr z _ _ => z
def Row.n : Row → Nat
  | .lst _ xs => xs.length
  | .arr _ n _ => n
def Row.at : Row → Nat → List DV
  | .lst _ xs, i => xs.getD i []
  | .arr _ _ f, i => f i
inductive Ent where
  | one (w : Bool) (r : Row)
  | fam (w : Bool) (m : Nat) (f : Nat → Row)
def Ent.w : Ent → Bool
  | .one w _ => w
  | .fam w _ _ => w
def Ent.m : Ent → Nat
  | .one _ _ => 1
  | .fam _ m _ => m
def Ent.row : Ent → Nat → Row
  | .one _ r, _ => r
  | .fam _ _ f, q => f q
abbrev Heap := List (Option Ent)
def look (H : Heap) (b : Nat) : Option Ent := (H[b]?).join
theorem look_some {H : Heap} {b : Nat} {e : Ent} : look H b = some e ↔ H[b]? = some (some e) := by
  unfold look
  cases h : H[b]? with
  | none => simp
  | some x => simp
theorem look_lt {H : Heap} {b : Nat} {e : Ent} (h : look H b = some e) : b < H.length := by
  rw [look_some] at h
  exact (List.getElem?_eq_some_iff.1 h).1

/-! ### where an abstract block lies -/
structure Spot where
  g : Nat
  o : Nat
  z : Nat
  m : Option Nat
abbrev Mu := Nat → Nat → Spot
def Mu.loc (μ : Mu) (b q i o : Nat) : Addr := ⟨(μ b q).g, (μ b q).o + i * (μ b q).z + o, none⟩
def Leaf (n : Nat) (μ : Mu) : DV → Value → Prop
  | .any, _ => True
  | .int k x, v => v = .int k x
  | .bool b, v => v = .bool b
  | .str s, v => v = .string s
  | .nilp, v => v = .pointer none
  | .ptr b q i o, v => b < n ∧ v = .pointer (some (μ.loc b q i o))
  | .nils, v => v = .slice none 0 0
  | .sl b q i len cap, v => b < n ∧ ((len = 0 ∧ cap = 0 ∧ v = .slice none 0 0) ∨
      ∃ a c, v = .slice (some a) len c ∧ len ≤ c ∧ cap ≤ c ∧ (c = 0 ∨ (a = μ.loc b q i 0 ∧ ∀ m, (μ b q).m = some m → i + c ≤ m)))
  | .fn f caps, v => (∀ b ∈ caps, b < n) ∧ v = .func (.func f) #[] (caps.map fun b => Value.pointer (some (μ.loc b 0 0 0))).toArray
  | .agg _, _ => False
  | .tup _, _ => False
def Elem (n : Nat) (μ : Mu) : DV → Value → Prop
  | .agg l, v => ∃ vs : Array Value, v = .agg vs ∧ L2 (Leaf n μ) l vs.toList
  | x, v => Leaf n μ x v
def VRel (n : Nat) (μ : Mu) : DV → Value → Prop
  | .tup l, v => ∃ vs : Array Value, v = .tuple vs ∧ L2 (Elem n μ) l vs.toList
  | x, v => Elem n μ x v
/-- 'μ'' says of the blocks below 'n' what 'μ' says. -/
def Same (n : Nat) (μ μ' : Mu) : Prop := ∀ b, b < n → μ' b = μ b
theorem Same.refl (n : Nat) (μ : Mu) : Same n μ μ := fun _ _ => rfl
theorem Same.trans {n n' : Nat} {μ μ' μ'' : Mu} (h : Same n μ μ') (hn : n ≤ n') (h' : Same n' μ' μ'') : Same n μ μ'' :=
  fun b hb => (h' b (Nat.lt_of_lt_of_le hb hn)).trans (h b hb)
theorem Same.loc {n : Nat} {μ μ' : Mu} (h : Same n μ μ') {b : Nat} (hb : b < n) (q i o : Nat) : μ'.loc b q i o = μ.loc b q i o := by
  unfold Mu.loc; rw [h b hb]
theorem Leaf.same {n n' : Nat} {μ μ' : Mu} (h : Same n μ μ') (hn : n ≤ n') {x : DV} {v : Value} (k : Leaf n μ x v) : Leaf n' μ' x v := by
  cases x with
  | ptr b q i o => exact ⟨Nat.lt_of_lt_of_le k.1 hn, by rw [h.loc k.1]; exact k.2⟩
  | sl b q i len cap =>
    refine ⟨Nat.lt_of_lt_of_le k.1 hn, ?_⟩
    rcases k.2 with k2 | ⟨a, c, h1, h2, h3, h4⟩
    · exact .inl k2
    · refine .inr ⟨a, c, h1, h2, h3, ?_⟩
      rw [h.loc k.1, h b k.1]; exact h4
  | fn f caps =>
    refine ⟨fun b hb => Nat.lt_of_lt_of_le (k.1 b hb) hn, ?_⟩
    rw [k.2]
    congr 2
    exact List.map_congr_left fun b hb => by rw [h.loc (k.1 b hb)]
  | _ => exact k
theorem Elem.same {n n' : Nat} {μ μ' : Mu} (h : Same n μ μ') (hn : n ≤ n') {x : DV} {v : Value} (k : Elem n μ x v) : Elem n' μ' x v := by
  cases x with
  | agg l => obtain ⟨vs, rfl, k⟩ := k; exact ⟨vs, rfl, k.mono fun _ _ => Leaf.same h hn⟩
  | tup l => exact (show Leaf n μ (.tup l) v from k).elim
  | any => exact trivial
  | ptr b q i o => exact Leaf.same (x := .ptr b q i o) h hn k
  | sl b q i len cap => exact Leaf.same (x := .sl b q i len cap) h hn k
  | fn f caps => exact Leaf.same (x := .fn f caps) h hn k
  | _ => exact k
theorem VRel.same {n n' : Nat} {μ μ' : Mu} (h : Same n μ μ') (hn : n ≤ n') {x : DV} {v : Value} (k : VRel n μ x v) : VRel n' μ' x v := by
  cases x with
  | tup l => obtain ⟨vs, rfl, k⟩ := k; exact ⟨vs, rfl, k.mono fun _ _ => Elem.same h hn⟩
  | agg l => exact Elem.same (x := .agg l) h hn k
  | any => exact trivial
  | ptr b q i o => exact Leaf.same (x := .ptr b q i o) h hn k
  | sl b q i len cap => exact Leaf.same (x := .sl b q i len cap) h hn k
  | fn f caps => exact Leaf.same (x := .fn f caps) h hn k
  | _ => exact k

/-! ### the abstract heap and the world -/
structure RowOk (n : Nat) (μ : Mu) (row : Row) (p : Spot) (w : World) : Prop where
  z : p.z = row.z
  cells : 0 < row.n → ∃ cs t fz, w.heap[p.g]? = some (.cells cs t fz) ∧ ∀ i, i < row.n → (row.at i).length = row.z ∧
    ∀ j d, (row.at i)[j]? = some d → ∃ v, cs[p.o + i * p.z + j]? = some v ∧ Leaf n μ d v
/-- A block that is there at all: one of the call's own that has room, or a row that has elements. -/
def Lv (μ : Mu) (b q : Nat) (e : Ent) : Prop := (e.w = true ∧ (μ b q).m ≠ some 0) ∨ 0 < (e.row q).n
structure HRel (μ : Mu) (H : Heap) (w : World) : Prop where
  rows : ∀ b e, look H b = some e → ∀ q, q < e.m → RowOk H.length μ (e.row q) (μ b q) w
  own : ∀ b e, look H b = some e → e.w = true → ∀ q, q < e.m → ∃ m, (μ b q).m = some m ∧ (0 < (e.row q).n → 0 < m) ∧ (0 < m → ∃ cs t, w.heap[(μ b q).g]? = some (.cells cs t (0, 0)) ∧
    (μ b q).o + m * (μ b q).z ≤ cs.size)
  inj : ∀ b e q b' e' q', look H b = some e → e.w = true → q < e.m → (μ b q).m ≠ some 0 → look H b' = some e' → q' < e'.m → (b ≠ b' ∨ q ≠ q') → Lv μ b' q' e' → (μ b q).g ≠ (μ b' q').g
structure Step (μ : Mu) (H : Heap) (w : World) (μ' : Mu) (H' : Heap) (w' : World) : Prop where
  os : w'.os = w.os
  tape : w'.tape = w.tape
  output : w'.output = w.output
  size : w.heap.size ≤ w'.heap.size
  frame : ∀ k, k < w.heap.size → (∀ b e q, look H b = some e → e.w = true → q < e.m → (μ b q).m ≠ some 0 → (μ b q).g ≠ k) → w'.heap[k]? = w.heap[k]?
  mu : Same H.length μ μ'
  len : H.length ≤ H'.length
  hrel : HRel μ' H' w'
  fresh : ∀ b e q, look H' b = some e → e.w = true → q < e.m → (μ' b q).m ≠ some 0 → w.heap.size ≤ (μ' b q).g ∨ ∃ b0 e0 q0, look H b0 = some e0 ∧ e0.w = true ∧ q0 < e0.m ∧ (μ b0 q0).m ≠ some 0 ∧ (μ b0 q0).g = (μ' b q).g
theorem HRel.lv {μ : Mu} {H : Heap} {w : World} (h : HRel μ H w) {b : Nat} {e : Ent} {q : Nat} (hb : look H b = some e) (hq : q < e.m) (hw : e.w = true) (hl : Lv μ b q e) : (μ b q).m ≠ some 0 := by
  rcases hl with hl | hl
  · exact hl.2
  · obtain ⟨m, h1, h2, _⟩ := h.own b e hb hw q hq
    have := h2 hl
    rw [h1]; intro h; cases h; omega
theorem HRel.ownc {μ : Mu} {H : Heap} {w : World} (h : HRel μ H w) {b : Nat} {e : Ent} {q : Nat} (hb : look H b = some e) (hw : e.w = true) (hq : q < e.m) (hl : (μ b q).m ≠ some 0) :
    ∃ cs t m, w.heap[(μ b q).g]? = some (.cells cs t (0, 0)) ∧ (μ b q).m = some m ∧ (μ b q).o + m * (μ b q).z ≤ cs.size := by
  obtain ⟨m, h1, _, h3⟩ := h.own b e hb hw q hq
  have : 0 < m := by rcases Nat.eq_zero_or_pos m with h | h; (subst h; exact absurd h1 hl); exact h
  obtain ⟨cs, t, k1, k2⟩ := h3 this
  exact ⟨cs, t, m, k1, h1, k2⟩
theorem HRel.lt {μ : Mu} {H : Heap} {w : World} (h : HRel μ H w) {b : Nat} {e : Ent} {q : Nat} (hb : look H b = some e) (hq : q < e.m) (hl : Lv μ b q e) : (μ b q).g < w.heap.size := by
  rcases hl with hl | hl
  · obtain ⟨cs, t, m, hh, _⟩ := h.ownc hb hl.1 hq hl.2
    exact (Array.getElem?_eq_some_iff.1 hh).1
  · obtain ⟨cs, t, fz, hh, _⟩ := (h.rows b e hb q hq).cells hl
    exact (Array.getElem?_eq_some_iff.1 hh).1
theorem Step.refl {μ : Mu} {H : Heap} {w : World} (h : HRel μ H w) : Step μ H w μ H w :=
  ⟨rfl, rfl, rfl, Nat.le_refl _, fun _ _ _ => rfl, Same.refl _ _, Nat.le_refl _, h, fun b e q hb hw hq hl => .inr ⟨b, e, q, hb, hw, hq, hl, rfl⟩⟩
theorem Step.trans {μ μ₁ μ₂ : Mu} {H H₁ H₂ : Heap} {w w₁ w₂ : World} (h : Step μ H w μ₁ H₁ w₁) (k : Step μ₁ H₁ w₁ μ₂ H₂ w₂) : Step μ H w μ₂ H₂ w₂ where
  os := k.os.trans h.os
  tape := k.tape.trans h.tape
  output := k.output.trans h.output
  size := Nat.le_trans h.size k.size
  frame := fun j hj hn => by
    rw [k.frame j (Nat.lt_of_lt_of_le hj h.size) ?_, h.frame j hj hn]
    intro b e q hb hw hq hl he
    rcases h.fresh b e q hb hw hq hl with hf | ⟨b0, e0, q0, h1, h2, h3, h5, h4⟩
    · omega
    · exact hn b0 e0 q0 h1 h2 h3 h5 (h4.trans he)
  mu := h.mu.trans h.len k.mu
  len := Nat.le_trans h.len k.len
  hrel := k.hrel
  fresh := fun b e q hb hw hq hl => by
    rcases k.fresh b e q hb hw hq hl with hf | ⟨b0, e0, q0, h1, h2, h3, h5, h4⟩
    · exact .inl (Nat.le_trans h.size hf)
    · rw [← h4]; exact h.fresh b0 e0 q0 h1 h2 h3 h5
/-- A world that differs in nothing but what was drawn. -/
theorem HRel.drawn {μ : Mu} {H : Heap} {w : World} (h : HRel μ H w) (n : Nat) : HRel μ H { w with drawn := n } :=
  ⟨fun b e hb q hq => ⟨(h.rows b e hb q hq).z, (h.rows b e hb q hq).cells⟩, h.own, h.inj⟩
theorem Step.drawn {μ μ' : Mu} {H H' : Heap} {w w' : World} (h : Step μ H w μ' H' w') (n : Nat) : Step μ H w μ' H' { w' with drawn := n } :=
  ⟨h.os, h.tape, h.output, h.size, h.frame, h.mu, h.len, h.hrel.drawn n, h.fresh⟩
end Go.Proofs.YtaklcaejeaiagaaE
namespace Go.Proofs.YtaklcaejeaiagaaE
open Go.RowKit

/-! ### what is known of the types -/
inductive TK where
  | int (k : IntKind)
  | bool
  | str
  | ptr (e : TypeId)
  | slice (e : TypeId)
  | struct (fs : List (TypeId × Nat))
  | func
  | other
def TK.ok (P : Program) (t : TypeId) : TK → Prop
  | .int k => P.underlying t = some (.int k)
  | .bool => P.underlying t = some .bool
  | .str => P.underlying t = some .string
  | .ptr e => P.underlying t = some (.pointer e)
  | .slice e => P.underlying t = some (.slice e)
  | .struct fs => ∃ fields : Array Field, P.underlying t = some (.struct fields) ∧ fields.toList.map (fun f => (f.type, f.offset)) = fs
  | .func => ∃ a b c, P.underlying t = some (.func a b c)
  | .other => False
def TK.agg : TK → Bool
  | .struct _ => true
  | _ => false
structure TI where
  size : Nat
  bytes : Nat
  zero : List DV
  kind : TK
structure TOk1 (P : Program) (t : TypeId) (i : TI) : Prop where
  und : i.kind.ok P t
  len : i.zero.length = i.size
  info : ∃ info z, P.info? t = some info ∧ info.size = i.size ∧ info.bytes = i.bytes ∧ info.zero = some z ∧ ∀ n μ, L2 (Leaf n μ) i.zero z.cells.toList
abbrev Tab := TypeId → Option TI
def TOk (P : Program) (T : Tab) : Prop := ∀ t i, T t = some i → TOk1 P t i
section
variable {P : Program} {t : TypeId} {i : TI}
theorem TOk1.sizeOf (h : TOk1 P t i) (w : World) : (sizeOf t).run P w = .ok i.size w := by
  obtain ⟨info, z, h1, h2, _⟩ := h.info
  simp [Go.sizeOf, typeInfo, h1, h2]
theorem TOk1.typeInfo (h : TOk1 P t i) (w : World) : ∃ info, (typeInfo t).run P w = .ok info w ∧ info.size = i.size ∧ info.bytes = i.bytes := by
  obtain ⟨info, z, h1, h2, h3, _⟩ := h.info
  exact ⟨info, by simp [Go.typeInfo, h1], h2, h3⟩
theorem TOk1.isAgg (h : TOk1 P t i) (w : World) : (isAgg t).run P w = .ok i.kind.agg w := by
  have hu := h.und
  cases hk : i.kind <;> rw [hk] at hu <;> simp only [TK.ok] at hu
  case struct fs => obtain ⟨f, hf, _⟩ := hu; simp [Go.isAgg, run_underlying hf, TK.agg]
  case func => obtain ⟨a, b, c, hf⟩ := hu; simp [Go.isAgg, run_underlying hf, TK.agg]
  all_goals simp [Go.isAgg, run_underlying hu, TK.agg]
theorem TOk1.zero (h : TOk1 P t i) (w : World) : ∃ z, (zeroValue t).run P w = .ok z w ∧ ∀ n μ, L2 (Leaf n μ) i.zero z.cells.toList := by
  obtain ⟨info, z, h1, h2, h3, h4, h5⟩ := h.info
  exact ⟨z, by simp [Go.zeroValue, Go.typeInfo, h1, h4], h5⟩
theorem TOk1.und_some (h : TOk1 P t i) : (P.underlying t).isSome = true := by
  have hu := h.und
  cases hk : i.kind <;> rw [hk] at hu <;> simp only [TK.ok] at hu
  case struct fs => obtain ⟨f, hf, _⟩ := hu; simp [hf]
  case func => obtain ⟨a, b, c, hf⟩ := hu; simp [hf]
  all_goals simp [hu]
end
theorem elem_slice {P : Program} {t e : TypeId} (h : P.underlying t = some (.slice e)) : P.elem t = e := by simp [Program.elem, h]
theorem und_slice {P : Program} {t e : TypeId} (h : P.underlying t = some (.slice e)) : P.underlying t = some (.slice (P.elem t)) := by rw [elem_slice h]; exact h

/-! ### operands -/
def ofLeaf : Value → DV
  | .int k n => .int k n
  | .bool b => .bool b
  | .string s => .str s
  | .pointer none => .nilp
  | .slice none 0 0 => .nils
  | _ => .any
def ofV : Value → DV
  | .agg vs => .agg (vs.toList.map ofLeaf)
  | .tuple vs => if vs.size = 0 then .tup [] else .any
  | v => ofLeaf v
def ev (r : List DV) : Operand → DV
  | .tmp t => r.getD t (.tup [])
  | .const v => ofV v
  | .func f => .fn f []
  | .global _ => .any
def put (r : List DV) (dst : Option Tmp) (v : DV) : List DV :=
  match dst with
  | some d => r.set d v
  | none => r
theorem ofLeaf_ok (n : Nat) (μ : Mu) (v : Value) : Leaf n μ (ofLeaf v) v := by
  unfold ofLeaf
  split <;> simp [Leaf]
theorem Leaf.elem {n : Nat} {μ : Mu} {x : DV} {v : Value} (h : Leaf n μ x v) : Elem n μ x v := by
  cases x <;> first | exact h | exact h.elim
theorem Elem.val {n : Nat} {μ : Mu} {x : DV} {v : Value} (h : Elem n μ x v) : VRel n μ x v := by
  cases x <;> first | exact h | exact h.elim
theorem Leaf.val {n : Nat} {μ : Mu} {x : DV} {v : Value} (h : Leaf n μ x v) : VRel n μ x v := h.elem.val
theorem undef_ok (n : Nat) (μ : Mu) : VRel n μ (.tup []) undef := ⟨#[], rfl, trivial⟩
theorem ofV_ok (n : Nat) (μ : Mu) (v : Value) : VRel n μ (ofV v) v := by
  unfold ofV
  split
  · rename_i vs
    refine ⟨vs, rfl, ?_⟩
    generalize vs.toList = l
    induction l with
    | nil => trivial
    | cons x l ih => exact ⟨ofLeaf_ok n μ x, ih⟩
  · rename_i vs
    split
    · rename_i h
      obtain rfl : vs = #[] := Array.eq_empty_of_size_eq_zero h
      exact ⟨#[], rfl, trivial⟩
    · exact trivial
  · exact (ofLeaf_ok n μ v).val
theorem ev_ok {n : Nat} {μ : Mu} {r : List DV} {a : Act} (h : L2 (VRel n μ) r a.tmps.toList) (x : Operand) : VRel n μ (ev r x) (a.eval x) := by
  cases x with
  | tmp t =>
    simp only [ev, Act.eval]
    cases hr : r[t]? with
    | some d =>
      obtain ⟨v, hv, k⟩ := h.get hr
      have : a.tmps[t]? = some v := by simpa using hv
      simp [List.getD, hr, Array.getD_eq_getD_getElem?, this, k]
    | none =>
      have hl := h.length
      have : a.tmps[t]? = none := by
        rw [List.getElem?_eq_none_iff] at hr
        simp at hl ⊢; omega
      simp only [List.getD, hr, Option.getD_none, Array.getD_eq_getD_getElem?, this]
      exact undef_ok n μ
  | const v => exact ofV_ok n μ v
  | func f => exact ⟨by simp, by simp [Act.eval]⟩
  | global g => exact trivial
theorem put_ok {n : Nat} {μ : Mu} {r : List DV} {a : Act} (h : L2 (VRel n μ) r a.tmps.toList) {x : DV} {v : Value} (hx : VRel n μ x v) (dst : Option Tmp) :
    L2 (VRel n μ) (put r dst x) (a.put dst v).tmps.toList := by
  cases dst with
  | none => exact h
  | some d =>
    simp only [put, Act.put, Array.toList_setIfInBounds]
    exact h.set hx d
theorem put_defers (a : Act) (dst : Option Tmp) (v : Value) : (a.put dst v).defers = a.defers := by cases dst <;> rfl

/-! ### one operation -/
def OpT (P : Program) (o : Oper) (r : List DV) (H : Heap) (v : DV) (H' : Heap) : Prop :=
  ∀ (μ : Mu) (w : World) (a : Act), HRel μ H w → L2 (VRel H.length μ) r a.tmps.toList →
    o.wp P a w (fun a' w' => ∃ μ' v', a' = a.put o.dst v' ∧ VRel H'.length μ' v v' ∧ Step μ H w μ' H' w') (fun _ _ _ => False)
theorem Oper.wp_q {P : Program} {o : Oper} {a : Act} {w : World} {K : Act → World → Prop} {Q : Exit → Act → World → Prop} (h : o.wp P a w K (fun _ _ _ => False)) : o.wp P a w K Q := by
  unfold Oper.wp at *
  generalize (execOp a.eval o).run P w = x at *
  cases x with
  | ok n w' =>
    cases n <;> simp only [Oper.upon] at h ⊢ <;> first | exact h | skip
    exact h.mono fun e w'' he => by
      cases e with
      | returned v => exact he
      | panicked c => exact he.elim
      | outgrown => obtain ⟨_, _, k⟩ := he; exact k.elim
  | halt x w' => cases x <;> simp only [Oper.upon] at h ⊢ <;> first | exact h | exact h.elim
theorem OpT.val {P : Program} {o : Oper} {r : List DV} {H : Heap} {v : DV}
    (h : ∀ (μ : Mu) (w : World) (a : Act), HRel μ H w → L2 (VRel H.length μ) r a.tmps.toList → ∃ v', (execOp a.eval o).run P w = .ok (.value v') w ∧ VRel H.length μ v v') : OpT P o r H v H := by
  intro μ w a hH hr
  obtain ⟨v', h1, h2⟩ := h μ w a hH hr
  unfold Oper.wp
  rw [h1]
  exact ⟨μ, v', rfl, h2, Step.refl hH⟩

/-! ### operators -/
def dBin (op : BinOp) (x y : DV) : Option (Prop × DV) :=
  match x, y with
  | .int k a, .int k' b =>
    match op with
    | .shl => some (0 ≤ b ∧ b ≤ k.bits, .int k (k.wrap (a * 2 ^ b.toNat)))
    | .shr => some (0 ≤ b ∧ b ≤ k.bits, .int k (a / 2 ^ b.toNat))
    | .add => if k = k' then some (True, .int k (k.wrap (a + b))) else none
    | .sub => if k = k' then some (True, .int k (k.wrap (a - b))) else none
    | .mul => if k = k' then some (True, .int k (k.wrap (a * b))) else none
    | .quo => if k = k' then some (b ≠ 0, .int k (k.wrap (a.tdiv b))) else none
    | .rem => if k = k' then some (b ≠ 0, .int k (a.tmod b)) else none
    | .and => if k = k' then some (True, .int k (bits .and k a b)) else none
    | .or => if k = k' then some (True, .int k (bits .or k a b)) else none
    | .xor => if k = k' then some (True, .int k (bits .xor k a b)) else none
    | .andNot => if k = k' then some (True, .int k (bits .andNot k a b)) else none
    | .eql => if k = k' then some (True, .bool (decide (a = b))) else none
    | .neq => if k = k' then some (True, .bool (decide (a ≠ b))) else none
    | .lss => if k = k' then some (True, .bool (decide (a < b))) else none
    | .leq => if k = k' then some (True, .bool (decide (a ≤ b))) else none
    | .gtr => if k = k' then some (True, .bool (decide (b < a))) else none
    | .geq => if k = k' then some (True, .bool (decide (b ≤ a))) else none
  | .str a, .str b =>
    match op with
    | .add => some (a.size + b.size ≤ 9223372036854775807, .str (a ++ b))
    | .eql => some (True, .bool (decide (a = b)))
    | .neq => some (True, .bool (decide (a ≠ b)))
    | _ => none
  | _, _ => none
theorem str_eq (a b : ByteArray) : (a.toList == b.toList) = decide (a = b) := by
  rw [ByteArray.toList_eq, ByteArray.toList_eq]
  obtain ⟨⟨x⟩⟩ := a
  obtain ⟨⟨y⟩⟩ := b
  by_cases h : x = y <;> simp [h]
theorem dBin_ok {P : Program} {n : Nat} {μ : Mu} {op : BinOp} {t : TypeId} {ox oy : Operand} {x y v : DV} {q : Prop} {xv yv : Value} (h : dBin op x y = some (q, v)) (hq : q) (hx : VRel n μ x xv) (hy : VRel n μ y yv) (w : World) :
    ∃ v', ((do eqGuard op t ox oy xv yv; binOp op t xv yv : Sem Value)).run P w = .ok v' w ∧ VRel n μ v v' := by
  unfold dBin at h
  split at h
  · rename_i k a k' b
    obtain rfl : xv = .int k a := hx
    obtain rfl : yv = .int k' b := hy
    have hg : eqGuard op t ox oy (.int k a) (.int k' b) = pure () := eqGuard_at_int ..
    rw [hg]
    cases op <;> simp only at h
    case shl =>
      obtain ⟨rfl, rfl⟩ := Prod.mk.inj (Option.some.inj h)
      exact ⟨_, by simp [binOp_shl, shift_shl _ _ _ _ hq.1 hq.2], rfl⟩
    case shr =>
      obtain ⟨rfl, rfl⟩ := Prod.mk.inj (Option.some.inj h)
      exact ⟨_, by simp [binOp_shr, shift_shr _ _ _ _ hq.1 hq.2], rfl⟩
    all_goals
      split at h
      case isFalse => cases h
      rename_i hk
      subst hk
      obtain ⟨rfl, rfl⟩ := Prod.mk.inj (Option.some.inj h)
    case h_1.add.isTrue => exact ⟨_, by simp [binOp_add, Op.intArith], rfl⟩
    case h_1.sub.isTrue => exact ⟨_, by simp [binOp_sub, Op.intArith], rfl⟩
    case h_1.mul.isTrue => exact ⟨_, by simp [binOp_mul, Op.intArith], rfl⟩
    case h_1.quo.isTrue => exact ⟨_, by simp [binOp_quo, Op.intDiv, hq], rfl⟩
    case h_1.rem.isTrue => exact ⟨_, by simp [binOp_rem, Op.intDiv, hq], rfl⟩
    case h_1.and.isTrue => exact ⟨_, by simp [binOp_and, intBits_and], rfl⟩
    case h_1.or.isTrue => exact ⟨_, by simp [binOp_or, intBits_or], rfl⟩
    case h_1.xor.isTrue => exact ⟨_, by simp [binOp_xor, intBits_xor], rfl⟩
    case h_1.andNot.isTrue => exact ⟨_, by simp [binOp_andNot, intBits_andNot], rfl⟩
    case h_1.eql.isTrue => exact ⟨.bool (a == b), by simp [binOp_eql], by show Value.bool _ = Value.bool _; congr 1⟩
    case h_1.neq.isTrue => exact ⟨.bool (a != b), by simp [binOp_neq], by show Value.bool _ = Value.bool _; congr 1; by_cases e : a = b <;> simp [e]⟩
    case h_1.lss.isTrue => exact ⟨_, by simp [binOp_lss], rfl⟩
    case h_1.leq.isTrue => exact ⟨_, by simp [binOp_leq], rfl⟩
    case h_1.gtr.isTrue => exact ⟨_, by simp [binOp_gtr], rfl⟩
    case h_1.geq.isTrue => exact ⟨_, by simp [binOp_geq], rfl⟩
  · rename_i a b
    obtain rfl : xv = .string a := hx
    obtain rfl : yv = .string b := hy
    have hg : eqGuard op t ox oy (.string a) (.string b) = pure () := eqGuard_at_string ..
    rw [hg]
    cases op <;> simp only at h <;> first | cases h | skip
    case h_2.add.refl => exact ⟨_, by simp [binOp_string_add, run_string_add_sum _ _ _ hq], rfl⟩
    case h_2.eql.refl => exact ⟨.bool (decide (a = b)), by simp [binOp_string_eql, str_eq], rfl⟩
    case h_2.neq.refl => exact ⟨.bool (!decide (a = b)), by simp [binOp_string_neq, str_eq], by show Value.bool _ = Value.bool _; congr 1; by_cases e : a = b <;> simp [e]⟩
  · cases h
end Go.Proofs.YtaklcaejeaiagaaE
namespace Go.Proofs.YtaklcaejeaiagaaE
open Go.RowKit

/-! ### reading a row -/
theorem RowOk.get {n : Nat} {μ : Mu} {row : Row} {p : Spot} {w : World} (h : RowOk n μ row p w) {i : Nat} (hi : i < row.n) :
    ∃ vs : List Value, L2 (Leaf n μ) (row.at i) vs ∧ vs.length = row.z ∧ ∀ j v, vs[j]? = some v → w.cell? ⟨p.g, p.o + i * p.z + j, none⟩ = some v := by
  obtain ⟨cs, t, fz, hh, hc⟩ := h.cells (by omega)
  obtain ⟨hl, hd⟩ := hc i hi
  have hcell : ∀ j, w.cell? ⟨p.g, j, none⟩ = cs[j]? := fun j => cell_of_row w p.g j cs t fz hh
  refine ⟨(cs.toList.drop (p.o + i * p.z)).take row.z, ?_, ?_, ?_⟩
  · have hlen : ((cs.toList.drop (p.o + i * p.z)).take row.z).length = row.z := by
      rcases Nat.eq_zero_or_pos row.z with hz | hz
      · simp [hz]
      · obtain ⟨v, hv, _⟩ := hd (row.z - 1) ((row.at i)[row.z - 1]'(by omega)) (List.getElem?_eq_getElem (by omega))
        have := (Array.getElem?_eq_some_iff.1 hv).1
        simp; omega
    refine L2.of (by rw [hlen, hl]) fun j a b ha hb => ?_
    have hj : j < row.z := by
      have := (List.getElem?_eq_some_iff.1 ha).1; omega
    obtain ⟨v, hv, hr⟩ := hd j a ha
    rw [List.getElem?_take, if_pos hj, List.getElem?_drop] at hb
    have : cs[p.o + i * p.z + j]? = some b := by simpa using hb
    rw [this] at hv
    exact Option.some.inj hv ▸ hr
  · rcases Nat.eq_zero_or_pos row.z with hz | hz
    · simp [hz]
    · obtain ⟨v, hv, _⟩ := hd (row.z - 1) ((row.at i)[row.z - 1]'(by omega)) (List.getElem?_eq_getElem (by omega))
      have := (Array.getElem?_eq_some_iff.1 hv).1
      simp; omega
  · intro j v hv
    rw [List.getElem?_take] at hv
    split at hv
    · rw [List.getElem?_drop] at hv
      rw [hcell]; simpa using hv
    · cases hv
theorem cells_sub {w : World} {g o : Nat} {vs : List Value} (h : ∀ j v, vs[j]? = some v → w.cell? ⟨g, o + j, none⟩ = some v) (k m : Nat) :
    ∀ j v, ((vs.drop k).take m)[j]? = some v → w.cell? ⟨g, o + k + j, none⟩ = some v := by
  intro j v hv
  rw [List.getElem?_take] at hv
  split at hv
  · rw [List.getElem?_drop] at hv
    have := h _ _ hv
    rwa [← Nat.add_assoc] at this
  · cases hv
theorem run_load_ok {P : Program} {t : TypeId} {i : TI} (ht : TOk1 P t i) {w : World} {g o : Nat} {vs : List Value} (hl : vs.length = i.size)
    (h : ∀ j v, vs[j]? = some v → w.cell? ⟨g, o + j, none⟩ = some v) (hs : i.kind.agg = true ∨ i.size = 1) :
    ∃ v, (loadVar t ⟨g, o, none⟩).run P w = .ok v w ∧ (i.kind.agg = true → v = .agg vs.toArray) ∧ (i.kind.agg = false → vs = [v]) := by
  have h' : ∀ j v, vs[j]? = some v → w.cell? ((⟨g, o, none⟩ : Addr).add j) = some v := fun j v hv => by rw [Addr.add_lit]; exact h j v hv
  have hc := run_loadCells_list (P := P) w ⟨g, o, none⟩ vs h'
  cases ha : i.kind.agg with
  | true =>
    refine ⟨.agg vs.toArray, ?_, fun _ => rfl, by simp⟩
    rw [hl] at hc
    simp [loadVar, ht.isAgg, ha, ht.sizeOf, hc]
  | false =>
    have hs1 : i.size = 1 := by rcases hs with h1 | h1; (rw [ha] at h1; cases h1); exact h1
    obtain ⟨v, rfl⟩ : ∃ v, vs = [v] := by
      match vs, hl with
      | [v], _ => exact ⟨v, rfl⟩
      | [], hl => simp at hl; omega
      | _ :: _ :: _, hl => simp at hl; omega
    refine ⟨v, ?_, by simp, fun _ => rfl⟩
    have h0 := h' 0 v rfl
    rw [Addr.add_zero'] at h0
    simp [loadVar, ht.isAgg, ha, h0]
def dLoad (T : Tab) (H : Heap) (t : TypeId) (x : DV) : Option (Prop × DV) :=
  match T t, x with
  | some ti, .ptr b q i o =>
    match look H b with
    | some e => some (q < e.m ∧ i < (e.row q).n ∧ o + ti.size ≤ (e.row q).z ∧ (ti.kind.agg = true ∨ ti.size = 1),
        if ti.kind.agg then .agg ((((e.row q).at i).drop o).take ti.size) else ((((e.row q).at i).drop o).take ti.size).headD .any)
    | none => none
  | _, _ => none
theorem dLoad_ok {P : Program} {T : Tab} (hT : TOk P T) {μ : Mu} {H : Heap} {w : World} (hH : HRel μ H w) {t : TypeId} {x v : DV} {q : Prop} {xv : Value} (h : dLoad T H t x = some (q, v)) (hq : q) (hx : VRel H.length μ x xv) :
    ∃ v', (Instr.loadAt t xv).run P w = .ok v' w ∧ VRel H.length μ v v' := by
  unfold dLoad at h
  split at h
  case h_2 => cases h
  rename_i ti b q i o hti
  split at h
  case h_2 => cases h
  rename_i e he
  obtain ⟨rfl, rfl⟩ := Prod.mk.inj (Option.some.inj h)
  obtain ⟨h1, h2, h3, h4⟩ := hq
  obtain ⟨hb, rfl⟩ : b < H.length ∧ xv = .pointer (some (μ.loc b q i o)) := hx
  have hr := hH.rows b e he q h1
  obtain ⟨vs, hv, hl, hc⟩ := hr.get h2
  have ht := hT t ti hti
  have hv' := (hv.drop o).take ti.size
  have hl' : ((vs.drop o).take ti.size).length = ti.size := by simp; omega
  obtain ⟨u, hu, ha, hn⟩ := run_load_ok (P := P) ht hl' (cells_sub hc o ti.size) h4
  refine ⟨u, by simpa [Instr.loadAt, Instr.sureAddr, Mu.loc] using hu, ?_⟩
  cases hk : ti.kind.agg with
  | true => rw [ha hk]; exact ⟨_, rfl, hv'⟩
  | false =>
    have := hn hk
    rw [this] at hv'
    simp only [Bool.false_eq_true, if_false]
    match hh : (((e.row q).at i).drop o).take ti.size, hv' with
    | [d], hv' => exact hv'.1.val
    | [], hv' => exact hv'.elim
    | _ :: _ :: _, hv' => exact hv'.2.elim

/-! ### writing -/
structure Wrote (w w' : World) (g : Nat) (t : TypeId) (cs cs' : Array Value) : Prop where
  os : w'.os = w.os
  tape : w'.tape = w.tape
  output : w'.output = w.output
  size : w'.heap.size = w.heap.size
  at0 : w.heap[g]? = some (.cells cs t (0, 0))
  at1 : w'.heap[g]? = some (.cells cs' t (0, 0))
  len : cs'.size = cs.size
  other : ∀ k, k ≠ g → w'.heap[k]? = w.heap[k]?
theorem Wrote.refl {w : World} {g : Nat} {t : TypeId} {cs : Array Value} (h : w.heap[g]? = some (.cells cs t (0, 0))) : Wrote w w g t cs cs := ⟨rfl, rfl, rfl, rfl, h, h, rfl, fun _ _ => rfl⟩
theorem Wrote.trans {a b c : World} {g : Nat} {t : TypeId} {x y z : Array Value} (h : Wrote a b g t x y) (k : Wrote b c g t y z) : Wrote a c g t x z :=
  ⟨k.os.trans h.os, k.tape.trans h.tape, k.output.trans h.output, k.size.trans h.size, h.at0, k.at1, k.len.trans h.len, fun j hj => (k.other j hj).trans (h.other j hj)⟩
theorem run_store1 {P : Program} {w : World} {g o : Nat} {t : TypeId} {cs : Array Value} (hg : w.heap[g]? = some (.cells cs t (0, 0))) (ho : o < cs.size) {v : Value} (hv : v.oneCell' = true) :
    ∃ w', (store ⟨g, o, none⟩ v).run P w = .ok () w' ∧ Wrote w w' g t cs (cs.setIfInBounds o v) := by
  refine ⟨w.setCell ⟨g, o, none⟩ v, ?_, rfl, rfl, rfl, by simp, hg, ?_, by simp, fun k hk => heap_setCell_other w ⟨g, o, none⟩ k v hk⟩
  · have hc : w.cell? ⟨g, o, none⟩ = some cs[o] := by rw [cell_of_row w g o cs t (0, 0) hg]; exact Array.getElem?_eq_getElem ho
    rw [run_store P w _ _ _ hv, hc]
    simp [frozen_of_row w g o cs t hg]
  · exact heap_setCell_same w g o cs t v hg
def overlay (cs : Array Value) (o : Nat) (vs : List Value) (cs' : Array Value) : Prop :=
  ∀ j : Nat, cs'[j]? = if o ≤ j ∧ j < o + vs.length then vs[j - o]? else cs[j]?
theorem run_storeCells_ok {P : Program} {g off : Nat} {t : TypeId} (vs : List Value) : ∀ (i : Nat) (w : World) (cs : Array Value), w.heap[g]? = some (.cells cs t (0, 0)) → off + i + vs.length ≤ cs.size →
    (∀ v ∈ vs, v.oneCell' = true) → ∃ w' cs', (storeCells ⟨g, off, none⟩ vs i).run P w = .ok () w' ∧ Wrote w w' g t cs cs' ∧ overlay cs (off + i) vs cs' := by
  induction vs with
  | nil =>
    intro i w cs hg _ _
    refine ⟨w, cs, by simp [storeCells], Wrote.refl hg, fun j => ?_⟩
    rw [if_neg (by simp only [List.length_nil]; omega)]
  | cons v vs ih =>
    intro i w cs hg hl hv
    simp only [List.length_cons] at hl
    obtain ⟨w1, h1, hw1⟩ := run_store1 (P := P) hg (o := off + i) (by omega) (hv v (by simp))
    obtain ⟨w2, cs2, h2, hw2, ho⟩ := ih (i + 1) w1 _ hw1.at1 (by simp; omega) (fun u hu => hv u (by simp [hu]))
    refine ⟨w2, cs2, ?_, hw1.trans hw2, fun j => ?_⟩
    · simp only [storeCells, Sem.run_bind, Addr.add_lit, h1, Result.andThen_ok, h2]
    · rw [ho j]
      by_cases hj : off + (i + 1) ≤ j ∧ j < off + (i + 1) + vs.length
      · rw [if_pos hj, if_pos (by simp; omega)]
        rw [show j - (off + i) = (j - (off + (i + 1))) + 1 by omega]
        rfl
      · rw [if_neg hj]
        by_cases hj2 : j = off + i
        · subst hj2
          rw [if_pos (by simp)]
          rw [Array.getElem?_setIfInBounds]
          simp; omega
        · rw [if_neg (by simp; omega), Array.getElem?_setIfInBounds, if_neg (by omega)]

/-! ### what a write does to the relation -/
theorem look_set {H : Heap} {b : Nat} {x : Option Ent} (k : Nat) (hb : b < H.length) : look (H.set b x) k = if k = b then x else look H k := by
  unfold look
  rw [List.getElem?_set]
  by_cases h : k = b
  · subst h; simp [hb]
  · rw [if_neg (fun e => h e.symm), if_neg h]
theorem look_append {H L : Heap} (k : Nat) : look (H ++ L) k = if k < H.length then look H k else look L (k - H.length) := by
  unfold look
  rw [List.getElem?_append]
  split <;> rfl
theorem look_one {x : Option Ent} (k : Nat) : look [x] k = if k = 0 then x else none := by
  unfold look
  cases k with
  | zero => simp
  | succ k => simp
theorem look_ge {H : Heap} {k : Nat} (h : H.length ≤ k) : look H k = none := by
  unfold look; simp [List.getElem?_eq_none h]
theorem RowOk.same {n n' : Nat} {μ μ' : Mu} (hs : Same n μ μ') (hn : n ≤ n') {row : Row} {p : Spot} {w w' : World} (hg : 0 < row.n → w'.heap[p.g]? = w.heap[p.g]?) (h : RowOk n μ row p w) : RowOk n' μ' row p w' := by
  refine ⟨h.z, fun h0 => ?_⟩
  obtain ⟨cs, t, fz, hh, hc⟩ := h.cells h0
  refine ⟨cs, t, fz, by rw [hg h0]; exact hh, fun i hi => ⟨(hc i hi).1, fun j d hd => ?_⟩⟩
  obtain ⟨v, hv, hr⟩ := (hc i hi).2 j d hd
  exact ⟨v, hv, hr.same hs hn⟩
/-- One row of a block of the call's own is written. -/
theorem HRel.write {μ : Mu} {H : Heap} {w w' : World} (hH : HRel μ H w) {b q : Nat} {e e' : Ent} (hb : look H b = some e) (hw : e.w = true) (hq : q < e.m) (hlv : (μ b q).m ≠ some 0) {t : TypeId} {cs cs' : Array Value}
    (hwr : Wrote w w' (μ b q).g t cs cs') (hm : e'.m = e.m) (hw' : e'.w = true) (ho : ∀ q', q' < e.m → q' ≠ q → e'.row q' = e.row q') (hr : RowOk H.length μ (e'.row q) (μ b q) w') : Step μ H w μ (H.set b (some e')) w' := by
  have hbl := look_lt hb
  have hlen : (H.set b (some e')).length = H.length := by simp
  have other : ∀ b2 e2 q2, look H b2 = some e2 → q2 < e2.m → (b2 ≠ b ∨ q2 ≠ q) → Lv μ b2 q2 e2 → w'.heap[(μ b2 q2).g]? = w.heap[(μ b2 q2).g]? := fun b2 e2 q2 h1 h2 h3 h4 =>
    hwr.other _ (fun he => hH.inj b e q b2 e2 q2 hb hw hq hlv h1 h2 (by rcases h3 with h3 | h3; (exact .inl fun x => h3 x.symm); (exact .inr fun x => h3 x.symm)) h4 he.symm)
  refine ⟨hwr.os, hwr.tape, hwr.output, by rw [hwr.size]; exact Nat.le_refl _, fun k hk hn => hwr.other k (fun he => hn b e q hb hw hq hlv he.symm), Same.refl _ _, by rw [hlen]; exact Nat.le_refl _, ⟨?_, ?_, ?_⟩, ?_⟩
  · intro b2 e2 h2 q2 hq2
    rw [look_set _ hbl] at h2
    rw [hlen]
    split at h2
    · rename_i hbb; subst hbb
      obtain rfl := Option.some.inj h2
      by_cases hqq : q2 = q
      · subst hqq; exact hr
      · rw [ho q2 (by omega) hqq]
        exact (hH.rows _ e hb q2 (by omega)).same (Same.refl _ _) (Nat.le_refl _) (fun hn => other _ e q2 hb (by omega) (.inr hqq) (.inr hn))
    · rename_i hbb
      exact (hH.rows b2 e2 h2 q2 hq2).same (Same.refl _ _) (Nat.le_refl _) (fun hn => other b2 e2 q2 h2 hq2 (.inl hbb) (.inr hn))
  · intro b2 e2 h2 hw2 q2 hq2
    rw [look_set _ hbl] at h2
    split at h2
    · rename_i hbb; subst hbb
      obtain rfl := Option.some.inj h2
      by_cases hqq : q2 = q
      · subst hqq
        obtain ⟨cs0, t0, m0, k1, k2, k3⟩ := hH.ownc hb hw (q := q2) (by omega) hlv
        rw [hwr.at0] at k1
        obtain ⟨rfl, rfl, _⟩ := Obj.cells.inj (Option.some.inj k1)
        exact ⟨m0, k2, fun _ => by rcases Nat.eq_zero_or_pos m0 with h | h; (subst h; exact absurd k2 hlv); exact h, fun _ => ⟨cs', t, hwr.at1, by rw [hwr.len]; exact k3⟩⟩
      · obtain ⟨m0, k2, k4, k3⟩ := hH.own _ e hb hw q2 (by omega)
        rw [ho q2 (by omega) hqq]
        refine ⟨m0, k2, k4, fun h0 => ?_⟩
        obtain ⟨cs0, t0, k1, k5⟩ := k3 h0
        exact ⟨cs0, t0, by rw [other _ e q2 hb (by omega) (.inr hqq) (.inl ⟨hw, by rw [k2]; intro h; cases h; omega⟩)]; exact k1, k5⟩
    · rename_i hbb
      obtain ⟨m0, k2, k4, k3⟩ := hH.own b2 e2 h2 hw2 q2 hq2
      refine ⟨m0, k2, k4, fun h0 => ?_⟩
      obtain ⟨cs0, t0, k1, k5⟩ := k3 h0
      exact ⟨cs0, t0, by rw [other b2 e2 q2 h2 hq2 (.inl hbb) (.inl ⟨hw2, by rw [k2]; intro h; cases h; omega⟩)]; exact k1, k5⟩
  · intro b1 e1 q1 b2 e2 q2 h1 hw1 hq1 hm1 h2 hq2 hne hlv2
    rw [look_set _ hbl] at h1 h2
    have f : ∀ {bb ee qq}, (if bb = b then some e' else look H bb) = some ee → ee.w = true ∨ True → qq < ee.m → ∃ e0, look H bb = some e0 ∧ qq < e0.m ∧ (ee.w = true → e0.w = true) ∧ (Lv μ bb qq ee → Lv μ bb qq e0) := by
      intro bb ee qq hh _ hqq
      split at hh
      · rename_i hx; subst hx
        obtain rfl := Option.some.inj hh
        refine ⟨e, hb, by omega, fun _ => hw, fun hl => ?_⟩
        by_cases hqq' : qq = q
        · subst hqq'; exact .inl ⟨hw, hlv⟩
        · rcases hl with hl | hl
          · exact .inl ⟨hw, hl.2⟩
          · rw [ho qq (by omega) hqq'] at hl; exact .inr hl
      · exact ⟨ee, hh, hqq, id, id⟩
    obtain ⟨x1, y1, z1, u1, _⟩ := f h1 (.inr trivial) hq1
    obtain ⟨x2, y2, z2, u2, v2⟩ := f h2 (.inr trivial) hq2
    exact hH.inj b1 x1 q1 b2 x2 q2 y1 (u1 hw1) z1 hm1 y2 z2 hne (v2 hlv2)
  · intro b2 e2 q2 h2 hw2 hq2 hm2
    rw [look_set _ hbl] at h2
    split at h2
    · rename_i hx; subst hx
      obtain rfl := Option.some.inj h2
      exact .inr ⟨_, e, q2, hb, hw, by omega, hm2, rfl⟩
    · exact .inr ⟨b2, e2, q2, h2, hw2, hq2, hm2, rfl⟩
/-- A block is not looked at any more. -/
theorem HRel.kill {μ : Mu} {H : Heap} {w : World} (hH : HRel μ H w) (b : Nat) : HRel μ (H.set b none) w := by
  have hl : (H.set b none).length = H.length := by simp
  have f : ∀ {bb ee}, look (H.set b none) bb = some ee → look H bb = some ee := by
    intro bb ee h
    by_cases hb : b < H.length
    · rw [look_set _ hb] at h; split at h; (cases h); exact h
    · rwa [List.set_eq_of_length_le (by omega)] at h
  exact ⟨fun b1 e1 h1 q1 hq => by rw [hl]; exact hH.rows b1 e1 (f h1) q1 hq, fun b1 e1 h1 => hH.own b1 e1 (f h1), fun b1 e1 q1 b2 e2 q2 h1 hw1 hq1 hm1 h2 => hH.inj b1 e1 q1 b2 e2 q2 (f h1) hw1 hq1 hm1 (f h2)⟩
theorem Step.kill {μ μ' : Mu} {H H' : Heap} {w w' : World} (h : Step μ H w μ' H' w') (b : Nat) : Step μ H w μ' (H'.set b none) w' := by
  refine ⟨h.os, h.tape, h.output, h.size, h.frame, h.mu, by simpa using h.len, h.hrel.kill b, fun b1 e1 q1 h1 hw hq => ?_⟩
  refine h.fresh b1 e1 q1 ?_ hw hq
  by_cases hb : b < H'.length
  · rw [look_set _ hb] at h1; split at h1; (cases h1); exact h1
  · rwa [List.set_eq_of_length_le (by omega)] at h1
def Mu.ext (μ : Mu) (n : Nat) (s : Spot) : Mu := fun b q => if b = n then s else μ b q
theorem Mu.ext_at (μ : Mu) (n : Nat) (s : Spot) (q : Nat) : μ.ext n s n q = s := by simp [Mu.ext]
theorem Mu.ext_same (μ : Mu) (n : Nat) (s : Spot) : Same n μ (μ.ext n s) := fun b hb => by
  funext q; simp [Mu.ext, Nat.ne_of_lt hb]
/-- A new block of the call's own: fresh, or the room of one that is given up. -/
theorem HRel.new {μ : Mu} {H : Heap} {w w' : World} (hH : HRel μ H w) {row : Row} {s : Spot} (os : w'.os = w.os) (tape : w'.tape = w.tape) (output : w'.output = w.output) (size : w.heap.size ≤ w'.heap.size)
    (other : ∀ k, k < w.heap.size → k ≠ s.g → w'.heap[k]? = w.heap[k]?) (hnew : w.heap.size ≤ s.g) (hr : RowOk (H.length + 1) (μ.ext H.length s) row s w')
    (hown : ∃ cs t m, w'.heap[s.g]? = some (.cells cs t (0, 0)) ∧ s.m = some m ∧ s.o + m * s.z ≤ cs.size ∧ (0 < row.n → 0 < m)) : Step μ H w (μ.ext H.length s) (H ++ [some (.one true row)]) w' := by
  have hlen : (H ++ [some (Ent.one true row)]).length = H.length + 1 := by simp
  have hsame := μ.ext_same H.length s
  have f : ∀ {b e}, look (H ++ [some (Ent.one true row)]) b = some e → (look H b = some e ∧ b < H.length) ∨ (b = H.length ∧ e = .one true row) := by
    intro b e h
    rw [look_append] at h
    split at h
    · exact .inl ⟨h, ‹_›⟩
    · rw [look_one] at h
      split at h
      · exact .inr ⟨by omega, (Option.some.inj h).symm⟩
      · cases h
  have hold : ∀ {b e q}, look H b = some e → q < e.m → Lv μ b q e → w'.heap[(μ b q).g]? = w.heap[(μ b q).g]? := fun hb hq hl =>
    other _ (hH.lt hb hq hl) (by have := hH.lt hb hq hl; omega)
  refine ⟨os, tape, output, size, fun k hk _ => other k hk (by omega), hsame, by omega, ⟨?_, ?_, ?_⟩, ?_⟩
  · intro b e h q hq
    rw [hlen]
    rcases f h with ⟨h1, h2⟩ | ⟨rfl, rfl⟩
    · rw [hsame b h2]
      exact (hH.rows b e h1 q hq).same hsame (by omega) (fun hn => hold h1 hq (.inr hn))
    · rw [Mu.ext_at]; exact hr
  · intro b e h hw q hq
    rcases f h with ⟨h1, h2⟩ | ⟨rfl, rfl⟩
    · rw [hsame b h2]
      obtain ⟨m0, k2, k4, k3⟩ := hH.own b e h1 hw q hq
      refine ⟨m0, k2, k4, fun h0 => ?_⟩
      rw [hold h1 hq (.inl ⟨hw, by rw [k2]; intro h; cases h; omega⟩)]
      exact k3 h0
    · rw [Mu.ext_at]
      obtain ⟨cs, t, m, o1, o2, o3, o4⟩ := hown
      exact ⟨m, o2, o4, fun _ => ⟨cs, t, o1, o3⟩⟩
  · intro b1 e1 q1 b2 e2 q2 h1 hw1 hq1 hm1 h2 hq2 hne hlv
    rcases f h1 with ⟨k1, l1⟩ | ⟨rfl, rfl⟩
    · rcases f h2 with ⟨k2, l2⟩ | ⟨rfl, rfl⟩
      · rw [hsame b1 l1, hsame b2 l2]
        rw [hsame b1 l1] at hm1
        refine hH.inj b1 e1 q1 b2 e2 q2 k1 hw1 hq1 hm1 k2 hq2 hne ?_
        unfold Lv at hlv ⊢
        rwa [hsame b2 l2] at hlv
      · rw [hsame b1 l1] at hm1
        rw [hsame b1 l1, Mu.ext_at]
        have := hH.lt k1 hq1 (.inl ⟨hw1, hm1⟩); omega
    · rcases f h2 with ⟨k2, l2⟩ | ⟨rfl, rfl⟩
      · rw [hsame b2 l2, Mu.ext_at]
        have := hH.lt k2 hq2 (by unfold Lv at hlv ⊢; rwa [hsame b2 l2] at hlv); omega
      · simp only [Ent.m] at hq1 hq2
        omega
  · intro b e q h hw hq hm
    rcases f h with ⟨h1, h2⟩ | ⟨rfl, rfl⟩
    · rw [hsame b h2] at hm ⊢; exact .inr ⟨b, e, q, h1, hw, hq, hm, rfl⟩
    · rw [Mu.ext_at]; exact .inl hnew
end Go.Proofs.YtaklcaejeaiagaaE
namespace Go.Proofs.YtaklcaejeaiagaaE
open Go.RowKit
theorem OpT.run {P : Program} {o : Oper} {r : List DV} {H H' : Heap} {v : DV}
    (h : ∀ (μ : Mu) (w : World) (a : Act), HRel μ H w → L2 (VRel H.length μ) r a.tmps.toList → ∃ μ' v' w', (execOp a.eval o).run P w = .ok (.value v') w' ∧ VRel H'.length μ' v v' ∧ Step μ H w μ' H' w') : OpT P o r H v H' := by
  intro μ w a hH hr
  obtain ⟨μ', v', w', h1, h2, h3⟩ := h μ w a hH hr
  unfold Oper.wp
  rw [h1]
  exact ⟨μ', v', rfl, h2, h3⟩
theorem OpT.skip {P : Program} {o : Oper} {r : List DV} {H H' : Heap}
    (h : ∀ (μ : Mu) (w : World) (a : Act), HRel μ H w → L2 (VRel H.length μ) r a.tmps.toList → ∃ μ' w', (execOp a.eval o).run P w = .ok .skip w' ∧ Step μ H w μ' H' w') : OpT P o r H (.tup []) H' := by
  intro μ w a hH hr
  obtain ⟨μ', w', h1, h3⟩ := h μ w a hH hr
  unfold Oper.wp
  rw [h1]
  exact ⟨μ', undef, rfl, undef_ok _ _, h3⟩

/-! ### cells of a value -/
def DV.leaf : DV → Bool
  | .any => false
  | .agg _ => false
  | .tup _ => false
  | _ => true
def cellsOf : DV → List DV
  | .agg l => l
  | x => [x]
theorem Leaf.oneCell {n : Nat} {μ : Mu} {x : DV} {v : Value} (h : Leaf n μ x v) (hx : x.leaf = true) : v.oneCell' = true ∧ v.cells = #[v] := by
  cases x <;> simp only [DV.leaf, Bool.false_eq_true] at hx <;> simp only [Leaf] at h
  case ptr => obtain ⟨_, rfl⟩ := h; exact ⟨rfl, rfl⟩
  case sl =>
    obtain ⟨_, h⟩ := h
    rcases h with ⟨_, _, rfl⟩ | ⟨a, c, rfl, _⟩ <;> exact ⟨rfl, rfl⟩
  case fn => obtain ⟨_, rfl⟩ := h; exact ⟨rfl, rfl⟩
  all_goals subst h; exact ⟨rfl, rfl⟩
theorem VRel.leafOf {n : Nat} {μ : Mu} {x : DV} {v : Value} (h : VRel n μ x v) (hx : x.leaf = true) : Leaf n μ x v := by
  cases x <;> first | exact h | (simp [DV.leaf] at hx; done)
theorem cellsOf_leaf {x : DV} (hx : x.leaf = true) : cellsOf x = [x] := by
  cases x <;> first | rfl | (simp [DV.leaf] at hx; done)
theorem cells_ok {n : Nat} {μ : Mu} {x : DV} {v : Value} (h : VRel n μ x v) (hx : (cellsOf x).all DV.leaf = true) :
    L2 (Leaf n μ) (cellsOf x) v.cells.toList ∧ ∀ u ∈ v.cells.toList, u.oneCell' = true := by
  by_cases hl : x.leaf = true
  · obtain ⟨h1, h2⟩ := Leaf.oneCell (h.leafOf hl) hl
    rw [h2, cellsOf_leaf hl]
    exact ⟨⟨h.leafOf hl, trivial⟩, by simpa using h1⟩
  · cases x with
    | agg l =>
      obtain ⟨vs, rfl, h⟩ := h
      refine ⟨h, fun u hu => ?_⟩
      obtain ⟨i, hi, rfl⟩ := List.mem_iff_getElem.1 hu
      obtain ⟨d, hd, k⟩ := h.get' (List.getElem?_eq_getElem hi)
      exact (k.oneCell (List.all_eq_true.1 hx d (List.mem_of_getElem? hd))).1
    | any => simp [cellsOf, DV.leaf] at hx
    | tup l => simp [cellsOf, DV.leaf] at hx
    | _ => exact absurd rfl hl

/-! ### small operations -/
def dUn (op : UnOp) (x : DV) : Option DV :=
  match op, x with
  | .not, .bool b => some (.bool (!b))
  | .neg, .int k n => some (.int k (k.wrap (0 - n)))
  | _, _ => none
theorem dUn_ok {P : Program} {n : Nat} {μ : Mu} {op : UnOp} {x v : DV} {xv : Value} (h : dUn op x = some v) (hx : VRel n μ x xv) (w : World) : ∃ v', (Op.unary op xv).run P w = .ok v' w ∧ VRel n μ v v' := by
  unfold dUn at h
  split at h
  · cases h; obtain rfl : xv = _ := hx; exact ⟨_, by simp [unary_not], rfl⟩
  · cases h; obtain rfl : xv = _ := hx; exact ⟨_, by simp [unary_neg, Op.intArith], rfl⟩
  · cases h
def dConv (T : Tab) (src dst : TypeId) (x : DV) : Option DV :=
  match T src, T dst, x with
  | some _, some ⟨_, _, _, .int k⟩, .int _ n => some (.int k (k.wrap n))
  | some ⟨_, _, _, .str⟩, some ⟨_, _, _, .str⟩, .str s => some (.str s)
  | _, _, _ => none
theorem dConv_ok {P : Program} {T : Tab} (hT : TOk P T) {n : Nat} {μ : Mu} {src dst : TypeId} {x v : DV} {xv : Value} (h : dConv T src dst x = some v) (hx : VRel n μ x xv) (w : World) : ∃ v', (convert src dst xv).run P w = .ok v' w ∧ VRel n μ v v' := by
  unfold dConv at h
  split at h
  · rename_i a b c d k j m h1 h2
    cases h; obtain rfl : xv = _ := hx
    have e := (hT _ _ h2).und
    simp only [TK.ok] at e
    have e' : P.intKind dst = k := by simp [Program.intKind, e]
    exact ⟨_, run_convert_int w src dst j m (hT _ _ h1).und_some (by rw [e']; exact e), by rw [e']; rfl⟩
  · rename_i h1 h2
    cases h; obtain rfl : xv = _ := hx
    have e1 := (hT _ _ h1).und
    have e2 := (hT _ _ h2).und
    simp only [TK.ok] at e1 e2
    exact ⟨_, by simp [convert, run_underlying e1, run_underlying e2], rfl⟩
  · cases h
def dFieldAddr (T : Tab) (t : TypeId) (x : DV) (f : Nat) : Option DV :=
  match T t, x with
  | some ⟨_, _, _, .struct fs⟩, .ptr b q i o =>
    match fs[f]? with
    | some (ft, off) => match T ft with
      | some ti => if ti.size = 0 then none else some (.ptr b q i (o + off))
      | none => none
    | none => none
  | _, _ => none
theorem dFieldAddr_ok {P : Program} {T : Tab} (hT : TOk P T) {n : Nat} {μ : Mu} {t : TypeId} {f : Nat} {x v : DV} {xv : Value} (h : dFieldAddr T t x f = some v) (hx : VRel n μ x xv) (w : World) : ∃ v', (Instr.fieldAt t xv f).run P w = .ok v' w ∧ VRel n μ v v' := by
  unfold dFieldAddr at h
  split at h
  case h_2 => cases h
  rename_i a1 a2 a3 fs b q i o hti
  obtain ⟨hb, rfl⟩ : b < n ∧ xv = .pointer (some (μ.loc b q i o)) := hx
  split at h
  case h_2 => cases h
  rename_i ft off hf
  split at h
  case h_2 => cases h
  rename_i ti htf
  split at h
  · cases h
  rename_i hz
  cases h
  obtain ⟨fields, hu, hfs⟩ := (hT _ _ hti).und
  have hfi : ∃ fd : Field, fields[f]? = some fd ∧ fd.type = ft ∧ fd.offset = off := by
    rw [← hfs, List.getElem?_map] at hf
    simp only [Array.getElem?_toList] at hf
    cases hx : fields[f]? with
    | none => rw [hx] at hf; cases hf
    | some fd => rw [hx] at hf; simp at hf; exact ⟨fd, rfl, hf.1, hf.2⟩
  obtain ⟨fd, h1, rfl, rfl⟩ := hfi
  have hsz := (hT _ _ htf).sizeOf w
  refine ⟨_, ?_, hb, rfl⟩
  simp [Instr.fieldAt, run_underlying hu, h1, Instr.sureAddr, fieldPlace, hsz, hz, Mu.loc, Addr.add_lit]
def dField (T : Tab) (t : TypeId) (x : DV) (f : Nat) : Option (Prop × DV) :=
  match T t, x with
  | some ⟨_, _, _, .struct fs⟩, .agg l =>
    match fs[f]? with
    | some (ft, off) => match T ft with
      | some ti => if ti.kind.agg then some (True, .agg ((l.drop off).take ti.size)) else match l[off]? with
        | some d => some (True, d)
        | none => none
      | none => none
    | none => none
  | _, _ => none
theorem L2.toArray {α : Type} {R : α → Value → Prop} {l : List α} {vs : Array Value} (h : L2 R l vs.toList) (o m : Nat) : L2 R ((l.drop o).take m) (vs.extract o (o + m)).toList := by
  rw [Array.toList_extract, List.extract_eq_take_drop, Nat.add_sub_cancel_left]
  exact (h.drop o).take m
theorem dField_ok {P : Program} {T : Tab} (hT : TOk P T) {n : Nat} {μ : Mu} {t : TypeId} {f : Nat} {x v : DV} {xv : Value} {p : Prop} (h : dField T t x f = some (p, v)) (hx : VRel n μ x xv) (w : World) : ∃ v', (Instr.field t xv f).run P w = .ok v' w ∧ VRel n μ v v' := by
  unfold dField at h
  split at h
  case h_2 => cases h
  rename_i a1 a2 a3 fs l hti
  obtain ⟨vs, rfl, hl⟩ := hx
  split at h
  case h_2 => cases h
  rename_i ft off hf
  split at h
  case h_2 => cases h
  rename_i ti htf
  obtain ⟨fields, hu, hfs⟩ := (hT _ _ hti).und
  have hfi : ∃ fd : Field, fields[f]? = some fd ∧ fd.type = ft ∧ fd.offset = off := by
    rw [← hfs, List.getElem?_map] at hf
    simp only [Array.getElem?_toList] at hf
    cases hx : fields[f]? with
    | none => rw [hx] at hf; cases hf
    | some fd => rw [hx] at hf; simp at hf; exact ⟨fd, rfl, hf.1, hf.2⟩
  obtain ⟨fd, h1, rfl, rfl⟩ := hfi
  have ht := hT _ _ htf
  split at h
  · rename_i ha
    cases h
    exact ⟨_, by simp [Instr.field, run_underlying hu, h1, asAgg, part, ht.isAgg, ha, ht.sizeOf], _, rfl, hl.toArray _ _⟩
  · rename_i ha
    split at h
    case h_2 => cases h
    rename_i d hd
    cases h
    obtain ⟨u, hu2, hr⟩ := hl.get hd
    have : vs[fd.offset]? = some u := by simpa using hu2
    exact ⟨u, by simp [Instr.field, run_underlying hu, h1, asAgg, part, ht.isAgg, ha, this], hr.val⟩
def dIndexAddr (T : Tab) (H : Heap) (t : TypeId) (x ix : DV) : Option (Prop × DV) :=
  match T t, x, ix with
  | some ⟨_, _, _, .slice e⟩, .sl b q i len _, .int _ n =>
    match T e, look H b with
    | some ti, some en => some (q < en.m ∧ (en.row q).z = ti.size ∧ 0 ≤ n ∧ n < (len : Int), .ptr b q (i + n.toNat) 0)
    | _, _ => none
  | _, _, _ => none
theorem Mu.loc_add (μ : Mu) (b q i n : Nat) : (μ.loc b q i 0).add (n * (μ b q).z) = μ.loc b q (i + n) 0 := by
  unfold Mu.loc
  rw [Addr.add_lit]
  congr 1
  rw [Nat.add_mul]; omega
theorem dIndexAddr_ok {P : Program} {T : Tab} (hT : TOk P T) {μ : Mu} {H : Heap} {w : World} (hH : HRel μ H w) {t : TypeId} {x ix v : DV} {p : Prop} {xv iv : Value} (h : dIndexAddr T H t x ix = some (p, v)) (hp : p) (hx : VRel H.length μ x xv) (hi : VRel H.length μ ix iv) :
    ∃ v', (Instr.indexAt t xv iv).run P w = .ok v' w ∧ VRel H.length μ v v' := by
  unfold dIndexAddr at h
  split at h
  case h_2 => cases h
  rename_i a1 a2 a3 e b q i len cap k n hti
  split at h
  case h_2 => cases h
  rename_i ti en hte hlk
  cases h
  obtain ⟨h1, h2, h3, h4⟩ := hp
  obtain rfl : iv = .int k n := hi
  obtain ⟨hb, hx⟩ := hx
  rcases hx with ⟨hx1, _⟩ | ⟨a, c, rfl, hx2, hx3, hx4⟩
  · omega
  have hu := (hT _ _ hti).und
  simp only [TK.ok] at hu
  have hz : (μ b q).z = ti.size := by rw [(hH.rows b en hlk q h1).z, h2]
  have ha : a = μ.loc b q i 0 := by rcases hx4 with hx4 | hx4; (omega); exact hx4.1
  refine ⟨_, ?_, hb, rfl⟩
  rw [run_indexAt_slice w t a len c k n (und_slice hu), if_pos ⟨h3, h4⟩, elem_slice hu, (hT _ _ hte).sizeOf]
  simp only [Result.andThen_ok]
  rw [ha, ← hz, Mu.loc_add]
def dIndex (T : Tab) (t : TypeId) (x ix : DV) : Option (Prop × DV) :=
  match T t, x, ix with
  | some ⟨_, _, _, .str⟩, .str s, .int _ n => some (0 ≤ n ∧ n < (s.size : Int), .int .u8 (s.data.toList.getD n.toNat 0).toNat)
  | _, _, _ => none
theorem dIndex_ok {P : Program} {T : Tab} (hT : TOk P T) {m : Nat} {μ : Mu} {w : World} {t : TypeId} {x ix v : DV} {p : Prop} {xv iv : Value} (h : dIndex T t x ix = some (p, v)) (hp : p) (hx : VRel m μ x xv) (hi : VRel m μ ix iv) :
    ∃ v', (Instr.index t xv iv).run P w = .ok v' w ∧ VRel m μ v v' := by
  unfold dIndex at h
  split at h
  case h_2 => cases h
  rename_i a1 a2 a3 s k n hti
  cases h
  obtain rfl : xv = .string s := hx
  obtain rfl : iv = .int k n := hi
  have hu := (hT _ _ hti).und
  simp only [TK.ok] at hu
  refine ⟨_, by rw [run_index_string w t s k n hu, dif_pos hp], ?_⟩
  show Value.int _ _ = Value.int _ _
  congr 2
  have : n.toNat < s.data.toList.length := by have := hp.1; have := hp.2; simp [← ByteArray.size_data] at *; omega
  rw [List.getD_eq_getElem?_getD, List.getElem?_eq_getElem this]
  rfl
def OptRel (n : Nat) (μ : Mu) : Option DV → Option Value → Prop
  | some d, some u => VRel n μ d u
  | none, none => True
  | _, _ => False
def natOf : DV → Nat → Option (Prop × Nat)
  | .int _ n, _ => some (0 ≤ n, n.toNat)
  | _, _ => none
def dSliceL (ti : TI) (en : Option Ent) (b q i len cap : Nat) (lo hi : Option DV) : Option (Prop × DV) :=
  match lo, hi with
  | none, none => some (True, .sl b q i len cap)
  | some (.int _ l), none => match en with
    | some en => some (q < en.m ∧ (en.row q).z = ti.size ∧ 0 ≤ l ∧ l ≤ (len : Int), .sl b q (i + l.toNat) (len - l.toNat) (cap - l.toNat))
    | _ => none
  | none, some (.int _ h) => some (0 ≤ h ∧ (h ≤ (len : Int) ∨ h ≤ (cap : Int)), .sl b q i h.toNat (max cap h.toNat))
  | some (.int _ l), some (.int _ h) => match en with
    | some en => some (q < en.m ∧ (en.row q).z = ti.size ∧ 0 ≤ l ∧ l ≤ h ∧ (h ≤ (len : Int) ∨ h ≤ (cap : Int)), .sl b q (i + l.toNat) (h.toNat - l.toNat) (max cap h.toNat - l.toNat))
    | _ => none
  | _, _ => none
def dSliceS (s : ByteArray) (lo hi : Option DV) : Option (Prop × DV) :=
  match lo, hi with
  | none, none => some (True, .str (s.extract 0 s.size))
  | some (.int _ l), none => some (0 ≤ l ∧ l ≤ (s.size : Int), .str (s.extract l.toNat s.size))
  | none, some (.int _ h) => some (0 ≤ h ∧ h ≤ (s.size : Int), .str (s.extract 0 h.toNat))
  | some (.int _ l), some (.int _ h) => some (0 ≤ l ∧ l ≤ h ∧ h ≤ (s.size : Int), .str (s.extract l.toNat h.toNat))
  | _, _ => none
def dSlice (T : Tab) (H : Heap) (t : TypeId) (x : DV) (lo hi : Option DV) : Option (Prop × DV) :=
  match T t with
  | some ⟨_, _, _, .slice e⟩ => match x with
    | .sl b q i len cap => match T e with
      | some ti => dSliceL ti (look H b) b q i len cap lo hi
      | none => none
    | _ => none
  | some ⟨_, _, _, .str⟩ => match x with
    | .str s => dSliceS s lo hi
    | _ => none
  | _ => none
theorem sliced_ok {n : Nat} {μ : Mu} {b q i len cap : Nat} {a : Addr} {c l h s : Nat} (hb : b < n) (hc : cap ≤ c) (hlc : len ≤ c) (hloc : c = 0 ∨ (a = μ.loc b q i 0 ∧ ∀ m, (μ b q).m = some m → i + c ≤ m)) (hl : l ≤ h) (hh : h ≤ c) (hs : l ≠ 0 → c ≠ 0 → (μ b q).z = s) (k : Nat) (hk : k ≤ c - l) :
    Leaf n μ (.sl b q (i + l) (h - l) k) (sliced (some a) l h c s) := by
  refine ⟨hb, .inr ?_⟩
  unfold sliced
  by_cases hm : c = l
  · refine ⟨a, c - l, by simp [hm], by omega, by omega, .inl (by omega)⟩
  · rw [if_neg hm]
    have h0 : c ≠ 0 := by omega
    obtain ⟨rfl, hm2⟩ : a = μ.loc b q i 0 ∧ ∀ m, (μ b q).m = some m → i + c ≤ m := by rcases hloc with h1 | h1; (omega); exact h1
    refine ⟨_, c - l, rfl, by omega, by omega, .inr ⟨?_, fun m hmm => by have := hm2 m hmm; omega⟩⟩
    by_cases hl0 : l = 0
    · subst hl0; simp [Addr.add_zero']
    · show (μ.loc b q i 0).add (l * s) = _
      rw [← hs hl0 h0, Mu.loc_add]
theorem dSlice_ok {P : Program} {T : Tab} (hT : TOk P T) {μ : Mu} {H : Heap} {w : World} (hH : HRel μ H w) {t : TypeId} {x v : DV} {lo hi : Option DV} {p : Prop} {xv : Value} {lv hv : Option Value} (h : dSlice T H t x lo hi = some (p, v)) (hp : p) (hx : VRel H.length μ x xv)
    (hlo : OptRel H.length μ lo lv) (hhi : OptRel H.length μ hi hv) :
    ∃ v', (Instr.sliceAt t xv lv hv none).run P w = .ok v' w ∧ VRel H.length μ v v' := by
  unfold dSlice at h
  split at h
  · rename_i a1 a2 a3 e hti
    split at h
    case h_2 => cases h
    rename_i b q i len cap
    split at h
    case h_2 => cases h
    rename_i ti hte
    unfold dSliceL at h
    have hu := (hT _ _ hti).und
    simp only [TK.ok] at hu
    have hu' := und_slice hu
    have he := elem_slice hu
    have hz : ∀ {ti en}, look H b = some en → q < en.m → (en.row q).z = ti → (μ b q).z = ti := fun hlk h1 h2 => by rw [(hH.rows b _ hlk q h1).z, h2]
    have hsz := (hT _ _ hte).sizeOf w
    obtain ⟨hb, hx⟩ := hx
    have hnil : ∀ (l h : Int), len = 0 → cap = 0 → 0 ≤ l → l ≤ h → h ≤ 0 → l = 0 ∧ h = 0 := by omega
    rw [run_sliceAt_slice w t _ _ _ _ hu']
    split at h
    · -- no bound
      cases h
      have : lv = none := by cases lv with | none => rfl | some u => exact hlo.elim
      have : hv = none := by cases hv with | none => rfl | some u => exact hhi.elim
      subst lv; subst hv
      rcases hx with ⟨rfl, rfl, rfl⟩ | ⟨a, c, rfl, hx2, hx3, hx4⟩
      · refine ⟨.slice none 0 0, ?_, hb, .inl ⟨rfl, rfl, rfl⟩⟩
        rw [run_slice_all w t _ _ _ hu', he, hsz]; rfl
      · refine ⟨_, by rw [run_slice_all w t _ _ _ hu', he, hsz]; rfl, ?_⟩
        have := sliced_ok (l := 0) (h := len) (s := ti.size) hb hx3 hx2 hx4 (Nat.zero_le _) hx2 (by simp) cap (by omega)
        simpa using this.val
    · rename_i kl l
      split at h
      case h_2 => cases h
      rename_i en hlk
      cases h
      obtain ⟨h1, h2, h3, h4⟩ := hp
      have : hv = none := by cases hv with | none => rfl | some u => exact hhi.elim
      subst hv
      obtain ⟨u, rfl⟩ : ∃ u, lv = some u := by cases lv with | none => exact hlo.elim | some u => exact ⟨u, rfl⟩
      obtain rfl : u = .int kl l := hlo
      rcases hx with ⟨rfl, rfl, rfl⟩ | ⟨a, c, rfl, hx2, hx3, hx4⟩
      · refine ⟨.slice none 0 0, ?_, hb, .inl ⟨by omega, by omega, rfl⟩⟩
        obtain rfl : l = 0 := by omega
        rw [run_slice_l w t _ _ _ hu' kl 0 h3 (by omega), he, hsz]; rfl
      · refine ⟨_, by rw [run_slice_l w t _ _ _ hu' kl l h3 h4, he, hsz]; rfl, ?_⟩
        exact (sliced_ok (l := l.toNat) (h := len) (s := ti.size) hb hx3 hx2 hx4 (by omega) hx2 (fun _ _ => hz hlk h1 h2) _ (by omega)).val
    · rename_i kh hh
      cases h
      obtain ⟨h1, h2⟩ := hp
      have : lv = none := by cases lv with | none => rfl | some u => exact hlo.elim
      subst lv
      obtain ⟨u, rfl⟩ : ∃ u, hv = some u := by cases hv with | none => exact hhi.elim | some u => exact ⟨u, rfl⟩
      obtain rfl : u = .int kh hh := hhi
      rcases hx with ⟨rfl, rfl, rfl⟩ | ⟨a, c, rfl, hx2, hx3, hx4⟩
      · obtain rfl : hh = 0 := by omega
        refine ⟨.slice none 0 0, ?_, hb, .inl ⟨by omega, by omega, rfl⟩⟩
        rw [run_slice_h w t _ _ _ hu' kh 0 h1 (by omega), he, hsz]; rfl
      · refine ⟨_, by rw [run_slice_h w t _ _ _ hu' kh hh h1 (by omega), he, hsz]; rfl, ?_⟩
        have := sliced_ok (l := 0) (h := hh.toNat) (s := ti.size) hb hx3 hx2 hx4 (Nat.zero_le _) (by omega) (by simp) (max cap hh.toNat) (by omega)
        simpa using this.val
    · rename_i kl l kh hh
      split at h
      case h_2 => cases h
      rename_i en hlk
      cases h
      obtain ⟨h1, h2, h3, h4, h5⟩ := hp
      obtain ⟨u, rfl⟩ : ∃ u, lv = some u := by cases lv with | none => exact hlo.elim | some u => exact ⟨u, rfl⟩
      obtain rfl : u = .int kl l := hlo
      obtain ⟨u, rfl⟩ : ∃ u, hv = some u := by cases hv with | none => exact hhi.elim | some u => exact ⟨u, rfl⟩
      obtain rfl : u = .int kh hh := hhi
      rcases hx with ⟨rfl, rfl, rfl⟩ | ⟨a, c, rfl, hx2, hx3, hx4⟩
      · obtain rfl : hh = 0 := by omega
        obtain rfl : l = 0 := by omega
        refine ⟨.slice none 0 0, ?_, hb, .inl ⟨by omega, by omega, rfl⟩⟩
        rw [run_slice_lh w t _ _ _ hu' kl kh 0 0 (by omega) (by omega) (by omega), he, hsz]; rfl
      · refine ⟨_, by rw [run_slice_lh w t _ _ _ hu' kl kh l hh h3 h4 (by omega), he, hsz]; rfl, ?_⟩
        exact (sliced_ok (l := l.toNat) (h := hh.toNat) (s := ti.size) hb hx3 hx2 hx4 (by omega) (by omega) (fun _ _ => hz hlk h1 h2) _ (by omega)).val
    · cases h
  · rename_i a1 a2 a3 hti
    split at h
    case h_2 => cases h
    rename_i s
    unfold dSliceS at h
    have hu := (hT _ _ hti).und
    simp only [TK.ok] at hu
    obtain rfl : xv = .string s := hx
    rw [run_sliceAt_string w t _ _ _ _ hu]
    split at h
    · cases h
      have : lv = none := by cases lv with | none => rfl | some u => exact hlo.elim
      have : hv = none := by cases hv with | none => rfl | some u => exact hhi.elim
      subst lv; subst hv
      exact ⟨_, run_slice_string_all w t s hu, rfl⟩
    · rename_i kl l
      cases h
      have : hv = none := by cases hv with | none => rfl | some u => exact hhi.elim
      subst hv
      obtain ⟨u, rfl⟩ : ∃ u, lv = some u := by cases lv with | none => exact hlo.elim | some u => exact ⟨u, rfl⟩
      obtain rfl : u = .int kl l := hlo
      exact ⟨_, run_slice_string_l w t s hu kl l hp.1 hp.2, rfl⟩
    · rename_i kh hh
      cases h
      have : lv = none := by cases lv with | none => rfl | some u => exact hlo.elim
      subst lv
      obtain ⟨u, rfl⟩ : ∃ u, hv = some u := by cases hv with | none => exact hhi.elim | some u => exact ⟨u, rfl⟩
      obtain rfl : u = .int kh hh := hhi
      exact ⟨_, run_slice_string_h w t s hu kh hh hp.1 hp.2, rfl⟩
    · rename_i kl l kh hh
      cases h
      obtain ⟨u, rfl⟩ : ∃ u, lv = some u := by cases lv with | none => exact hlo.elim | some u => exact ⟨u, rfl⟩
      obtain rfl : u = .int kl l := hlo
      obtain ⟨u, rfl⟩ : ∃ u, hv = some u := by cases hv with | none => exact hhi.elim | some u => exact ⟨u, rfl⟩
      obtain rfl : u = .int kh hh := hhi
      exact ⟨_, run_slice_string (P := P) (w := w) t s kl kh l hh hu hp.1 hp.2.1 hp.2.2, rfl⟩
    · cases h
  · cases h
end Go.Proofs.YtaklcaejeaiagaaE
namespace Go.Proofs.YtaklcaejeaiagaaE
open Go.RowKit

/-! ### cells laid over cells -/
def splice (l : List DV) (o : Nat) (c : List DV) : List DV := l.take o ++ (c ++ l.drop (o + c.length))
theorem splice_length {l c : List DV} {o : Nat} (h : o + c.length ≤ l.length) : (splice l o c).length = l.length := by
  simp [splice]; omega
theorem splice_get {l c : List DV} {o : Nat} (h : o + c.length ≤ l.length) (j : Nat) : (splice l o c)[j]? = if o ≤ j ∧ j < o + c.length then c[j - o]? else l[j]? := by
  unfold splice
  rw [List.getElem?_append]
  have ht : (l.take o).length = o := by simp; omega
  rw [ht]
  by_cases h1 : j < o
  · rw [if_pos h1, if_neg (by omega), List.getElem?_take, if_pos h1]
  · rw [if_neg h1, List.getElem?_append]
    by_cases h2 : j < o + c.length
    · rw [if_pos (by omega), if_pos (by omega)]
    · rw [if_neg (by omega), if_neg (by omega), List.getElem?_drop]
      congr 1; omega
theorem splice_ok {R : DV → Value → Prop} {l c : List DV} {o : Nat} {vc vc' : Array Value} {vs : List Value} (h : L2 R l vc.toList) (hc : L2 R c vs) (ho : overlay vc o vs vc') (hs : vc'.size = vc.size) (hl : o + c.length ≤ l.length) : L2 R (splice l o c) vc'.toList := by
  have e1 := h.length
  have e2 := hc.length
  refine L2.of (by rw [splice_length hl, e1]; simp [hs]) fun j a b ha hb => ?_
  rw [splice_get hl] at ha
  have hb' : vc'[j]? = some b := by simpa using hb
  rw [ho j, ← e2] at hb'
  split at ha
  · rename_i hj
    rw [if_pos hj] at hb'
    obtain ⟨u, hu, hr⟩ := hc.get ha
    rw [hu] at hb'
    exact Option.some.inj hb' ▸ hr
  · rename_i hj
    rw [if_neg hj] at hb'
    obtain ⟨u, hu, hr⟩ := h.get ha
    have : vc[j]? = some u := by simpa using hu
    rw [this] at hb'
    exact Option.some.inj hb' ▸ hr
theorem overlay_fold {off : Nat} (vs : List Value) : ∀ (k : Nat) (cs : Array Value), off + k + vs.length ≤ cs.size →
    overlay cs (off + k) vs ((vs.zipIdx k).foldl (fun cs p => cs.setIfInBounds (off + p.2) p.1) cs) ∧ ((vs.zipIdx k).foldl (fun cs p => cs.setIfInBounds (off + p.2) p.1) cs).size = cs.size := by
  induction vs with
  | nil => intro k cs _; exact ⟨fun j => by rw [if_neg (by simp only [List.length_nil]; omega)]; rfl, rfl⟩
  | cons v vs ih =>
    intro k cs hl
    simp only [List.length_cons] at hl
    obtain ⟨h1, h2⟩ := ih (k + 1) (cs.setIfInBounds (off + k) v) (by simp; omega)
    simp only [List.zipIdx_cons, List.foldl_cons]
    refine ⟨fun j => ?_, by rw [h2]; simp⟩
    rw [h1 j]
    by_cases hj : off + (k + 1) ≤ j ∧ j < off + (k + 1) + vs.length
    · rw [if_pos hj, if_pos (by simp; omega), show j - (off + k) = (j - (off + (k + 1))) + 1 by omega]
      rfl
    · rw [if_neg hj]
      by_cases hj2 : j = off + k
      · subst hj2
        rw [if_pos (by simp), Array.getElem?_setIfInBounds]
        simp; omega
      · rw [if_neg (by simp; omega), Array.getElem?_setIfInBounds, if_neg (by omega)]
def dFill (place : Nat → Option (Nat × Nat)) (cells : List DV) : List (Nat × DV) → Option (List DV)
  | [] => some cells
  | (i, x) :: rest =>
    match place i with
    | none => none
    | some (off, size) => if (cellsOf x).length = size ∧ off + size ≤ cells.length ∧ (cellsOf x).all DV.leaf = true then dFill place (splice cells off (cellsOf x)) rest else none
theorem dFill_ok {n : Nat} {μ : Mu} {place : Nat → Option (Nat × Nat)} : ∀ {dp : List (Nat × DV)} {vp : List (Nat × Value)} {cells cells' : List DV} {vc : Array Value}, L2 (fun p q => p.1 = q.1 ∧ VRel n μ p.2 q.2) dp vp → L2 (Leaf n μ) cells vc.toList → dFill place cells dp = some cells' →
    ∃ vc', Instr.fill place vc vp = some vc' ∧ L2 (Leaf n μ) cells' vc'.toList
  | [], [], _, _, vc, _, hc, h => by cases h; exact ⟨vc, rfl, hc⟩
  | (i, x) :: dp, (i', v) :: vp, cells, cells', vc, hp, hc, h => by
    obtain ⟨⟨h0, hx⟩, hp⟩ := hp
    simp only at h0 hx
    subst h0
    simp only [dFill] at h
    split at h
    · cases h
    rename_i off size hpl
    split at h
    case isFalse => cases h
    rename_i hh
    obtain ⟨h1, h2, h3⟩ := hh
    obtain ⟨k1, k2⟩ := cells_ok hx h3
    have hlen : v.cells.size = size := by have := k1.length; simp at this; omega
    have hvc : vc.size = cells.length := by have := hc.length; simp at this; omega
    obtain ⟨f1, f2⟩ := overlay_fold (off := off) v.cells.toList 0 vc (by simp; omega)
    have hf : v.cells.zipIdx.foldl (fun cs p => cs.setIfInBounds (off + p.2) p.1) vc = ((v.cells.toList.zipIdx 0).foldl (fun cs p => cs.setIfInBounds (off + p.2) p.1) vc) := by
      rw [← Array.foldl_toList, Array.toList_zipIdx]
    have hs := splice_ok (o := off) hc k1 f1 f2 (by omega)
    obtain ⟨vc', g1, g2⟩ := dFill_ok hp hs h
    refine ⟨vc', ?_, g2⟩
    have hcond : ¬ (decide (v.cells.size ≠ size) || decide (off + v.cells.size > vc.size)) = true := by simp; omega
    unfold Instr.fill
    simp only [hpl]
    rw [if_neg hcond, ← g1, ← hf]
  | [], _ :: _, _, _, _, h, _, _ => h.elim
  | _ :: _, [], _, _, _, h, _, _ => h.elim
def dBuild (T : Tab) (t : TypeId) (parts : List (Nat × DV)) : Option DV :=
  match T t with
  | some ⟨_, _, zero, .struct fs⟩ =>
    if fs.all (fun p => (T p.1).isSome) = true then
      match dFill (fun (i : Nat) => (fs[i]?).bind fun (p : TypeId × Nat) => (T p.1).map fun ti => (p.2, ti.size)) zero parts with
      | some l => some (.agg l)
      | none => none
    else none
  | _ => none
theorem run_mapM {P : Program} {α β : Type} (f : α → Sem β) (g : α → β) (w : World) : ∀ (l : List α), (∀ x ∈ l, (f x).run P w = .ok (g x) w) → (l.mapM f).run P w = .ok (l.map g) w
  | [], _ => by simp
  | x :: l, h => by
    simp only [List.mapM_cons, Sem.run_bind, h x (by simp), Result.andThen_ok, run_mapM f g w l (fun y hy => h y (by simp [hy])), List.map_cons, Sem.run_pure]
theorem dBuild_ok {P : Program} {T : Tab} (hT : TOk P T) {n : Nat} {μ : Mu} {t : TypeId} {v : DV} {dp : List (Nat × DV)} {vp : Array (Nat × Value)} (h : dBuild T t dp = some v) (hp : L2 (fun p q => p.1 = q.1 ∧ VRel n μ p.2 q.2) dp vp.toList) (w : World) :
    ∃ v', (Instr.build t vp).run P w = .ok v' w ∧ VRel n μ v v' := by
  unfold dBuild at h
  split at h
  case h_2 => cases h
  rename_i a1 a2 zero fs hti
  split at h
  case isFalse => cases h
  rename_i hall
  split at h
  case h_2 => cases h
  rename_i l hf
  cases h
  have ht := hT _ _ hti
  obtain ⟨fields, hu, hfs⟩ := ht.und
  obtain ⟨z, hz, hzl⟩ := ht.zero w
  obtain ⟨vc', g1, g2⟩ := dFill_ok hp (hzl n μ) hf
  have hpl : (fields.mapM (fun f => do pure (f.offset, ← sizeOf f.type) : Field → Sem (Nat × Nat))).run P w = .ok (fields.map fun f => (f.offset, ((T f.type).getD ⟨0, 0, [], .other⟩).size)) w := by
    rw [Array.mapM_eq_mapM_toList]
    simp only [Sem.run_map]
    rw [run_mapM _ (fun f => (f.offset, ((T f.type).getD ⟨0, 0, [], .other⟩).size))]
    · simp only [Result.andThen_ok]
      congr 1
      apply Array.ext'
      simp
    · intro f hf
      have : (T f.type).isSome = true := by
        rw [List.all_eq_true] at hall
        exact hall (f.type, f.offset) (by rw [← hfs]; exact List.mem_map.2 ⟨f, hf, rfl⟩)
      obtain ⟨ti, hti⟩ := Option.isSome_iff_exists.1 this
      simp [(hT _ _ hti).sizeOf, hti]
  refine ⟨.agg vc', ?_, vc', rfl, g2⟩
  simp only [Instr.build, Sem.run_bind, hz, Result.andThen_ok, run_underlying hu, hpl]
  have : (fun (i : Nat) => (fields.map fun f => (f.offset, ((T f.type).getD ⟨0, 0, [], .other⟩).size))[i]?) = (fun (i : Nat) => (fs[i]?).bind fun (p : TypeId × Nat) => (T p.1).map fun ti => (p.2, ti.size)) := by
    funext i
    rw [← hfs, List.getElem?_map, Array.getElem?_map]
    simp only [Array.getElem?_toList]
    cases hx : fields[i]? with
    | none => rfl
    | some f =>
      have : (T f.type).isSome = true := by
        rw [List.all_eq_true] at hall
        exact hall (f.type, f.offset) (by rw [← hfs]; exact List.mem_map.2 ⟨f, by simpa using Array.mem_of_getElem? hx, rfl⟩)
      obtain ⟨ti, hti⟩ := Option.isSome_iff_exists.1 this
      simp [hti]
  have e2 : (fun (x : Nat) => (fields.map fun f => (f.offset, ((T f.type).getD ⟨0, 0, [], .other⟩).size))[x]?) = (fun (i : Nat) => (fs[i]?).bind fun (p : TypeId × Nat) => (T p.1).map fun ti => (p.2, ti.size)) := this
  rw [e2, g1]
  rfl

/-! ### new blocks -/
def newRow1 (H : Heap) (row : Row) : Heap := H ++ [some (.one true row)]
theorem alloc_new {μ : Mu} {H : Heap} {w : World} (hH : HRel μ H w) {row : Row} {cs : Array Value} {t : TypeId} {m : Nat} (hm : m * row.z ≤ cs.size) (hnm : 0 < row.n → 0 < m)
    (hr : ∀ (i : Nat), i < row.n → (row.at i).length = row.z ∧ ∀ (j : Nat) d, (row.at i)[j]? = some d → ∃ v, cs[i * row.z + j]? = some v ∧ Leaf H.length μ d v) :
    Step μ H w (μ.ext H.length ⟨w.heap.size, 0, row.z, some m⟩) (newRow1 H row) (w.alloc (.cells cs t)) := by
  have hnew : (w.alloc (.cells cs t)).heap[w.heap.size]? = some (.cells cs t (0, 0)) := heap_alloc_new w _
  refine hH.new (s := ⟨w.heap.size, 0, row.z, some m⟩) rfl rfl rfl (by simp) (fun k hk _ => Below.heap_alloc w _ k hk) (Nat.le_refl _) ⟨rfl, fun _ => ⟨cs, t, (0, 0), hnew, fun i hi => ⟨(hr i hi).1, fun j d hd => ?_⟩⟩⟩ ⟨cs, t, m, hnew, rfl, by simpa using hm, hnm⟩
  obtain ⟨v, hv, hl⟩ := (hr i hi).2 j d hd
  exact ⟨v, by simpa using hv, hl.same (μ.ext_same _ _) (by omega)⟩
theorem newRow1_len (H : Heap) (row : Row) : (newRow1 H row).length = H.length + 1 := by simp [newRow1]
theorem ptr_new {μ : Mu} {H : Heap} {row : Row} {g z : Nat} {m : Option Nat} : VRel (newRow1 H row).length (μ.ext H.length ⟨g, 0, z, m⟩) (.ptr H.length 0 0 0) (.pointer (some ⟨g, 0, none⟩)) := by
  refine ⟨by rw [newRow1_len]; omega, ?_⟩
  simp [Mu.loc, Mu.ext_at]
theorem row_of_L2 {n : Nat} {μ : Mu} {l : List DV} {cs : Array Value} (h : L2 (Leaf n μ) l cs.toList) : ∀ (i : Nat), i < (Row.lst l.length [l]).n → ((Row.lst l.length [l]).at i).length = l.length ∧ ∀ (j : Nat) d, ((Row.lst l.length [l]).at i)[j]? = some d → ∃ v, cs[i * l.length + j]? = some v ∧ Leaf n μ d v := by
  intro i hi
  obtain rfl : i = 0 := by simp only [Row.n, List.length_cons, List.length_nil] at hi; omega
  refine ⟨rfl, fun j d hd => ?_⟩
  obtain ⟨v, hv, hr⟩ := h.get (show l[j]? = some d from hd)
  exact ⟨v, by simpa using hv, hr⟩
def dAlloc (T : Tab) (H : Heap) (t : TypeId) : Option (DV × Heap) :=
  match T t with
  | some ti => some (.ptr H.length 0 0 0, newRow1 H (.lst ti.zero.length [ti.zero]))
  | none => none
theorem dAlloc_ok {P : Program} {T : Tab} (hT : TOk P T) {μ : Mu} {H H' : Heap} {w : World} (hH : HRel μ H w) {t : TypeId} {v : DV} (h : dAlloc T H t = some (v, H')) :
    ∃ μ' v' w', (Instr.alloc t true (.tuple #[])).run P w = .ok v' w' ∧ VRel H'.length μ' v v' ∧ Step μ H w μ' H' w' := by
  unfold dAlloc at h
  split at h
  case h_2 => cases h
  rename_i ti hti
  obtain ⟨rfl, rfl⟩ := Prod.mk.inj (Option.some.inj h)
  obtain ⟨z, hz, hzl⟩ := (hT _ _ hti).zero w
  have hl := hzl H.length μ
  have hlen := hl.length
  refine ⟨_, _, _, ?_, ptr_new, alloc_new hH (m := 1) (t := t) (cs := z.cells) (by simp [Row.z] at *; omega) (fun _ => Nat.one_pos) (row_of_L2 hl)⟩
  simp [Instr.alloc, hz, newVar, newRow]
def dBox (H : Heap) (x : DV) : Option (DV × Heap) :=
  if (cellsOf x).all DV.leaf = true then some (.ptr H.length 0 0 0, newRow1 H (.lst (cellsOf x).length [cellsOf x])) else none
theorem dBox_ok {P : Program} {μ : Mu} {H H' : Heap} {w : World} (hH : HRel μ H w) {t : TypeId} {x v : DV} {xv : Value} (h : dBox H x = some (v, H')) (hx : VRel H.length μ x xv) :
    ∃ μ' v' w', (Instr.box t xv).run P w = .ok v' w' ∧ VRel H'.length μ' v v' ∧ Step μ H w μ' H' w' := by
  unfold dBox at h
  split at h
  case isFalse => cases h
  rename_i hl
  obtain ⟨rfl, rfl⟩ := Prod.mk.inj (Option.some.inj h)
  obtain ⟨k1, _⟩ := cells_ok hx hl
  have hlen := k1.length
  refine ⟨_, _, _, ?_, ptr_new, alloc_new hH (m := 1) (t := t) (cs := xv.cells) (by simp [Row.z] at *; omega) (fun _ => Nat.one_pos) (row_of_L2 k1)⟩
  simp [Instr.box, newVar, newRow]

/-! ### a store -/
def Row.upd : Row → Nat → List DV → Row
  | .lst z xs, i, c => .lst z (xs.set i c)
  | .arr z n f, i, c => .arr z n (fun j => if j = i then c else f j)
def Ent.upd : Ent → Nat → Nat → List DV → Ent
  | .one w r, _, i, c => .one w (r.upd i c)
  | .fam w m f, q, i, c => .fam w m (fun q' => if q' = q then (f q).upd i c else f q')
theorem Row.upd_z (r : Row) (i : Nat) (c : List DV) : (r.upd i c).z = r.z := by cases r <;> rfl
theorem Row.upd_n (r : Row) (i : Nat) (c : List DV) : (r.upd i c).n = r.n := by cases r <;> simp [Row.upd, Row.n]
theorem Row.upd_at (r : Row) {i : Nat} (hi : i < r.n) (c : List DV) (j : Nat) : (r.upd i c).at j = if j = i then c else r.at j := by
  cases r with
  | lst z xs =>
    simp only [Row.upd, Row.at, List.getD_eq_getElem?_getD, List.getElem?_set]
    by_cases h : i = j
    · subst h
      simp only [Row.n] at hi
      simp [hi]
    · rw [if_neg h, if_neg (fun e : j = i => h e.symm)]
  | arr z n f => rfl
theorem Ent.upd_m (e : Ent) (q i : Nat) (c : List DV) : (e.upd q i c).m = e.m := by cases e <;> rfl
theorem Ent.upd_w (e : Ent) (q i : Nat) (c : List DV) : (e.upd q i c).w = e.w := by cases e <;> rfl
theorem Ent.upd_row (e : Ent) {q : Nat} (hq : q < e.m) (i : Nat) (c : List DV) : (e.upd q i c).row q = (e.row q).upd i c := by
  cases e with
  | one w r => rfl
  | fam w m f => simp [Ent.upd, Ent.row]
theorem Ent.upd_other (e : Ent) {q q' : Nat} (hq : q < e.m) (hq' : q' < e.m) (h : q' ≠ q) (i : Nat) (c : List DV) : (e.upd q i c).row q' = e.row q' := by
  cases e with
  | one w r => simp only [Ent.m] at hq hq'; omega
  | fam w m f => simp [Ent.upd, Ent.row, h]
end Go.Proofs.YtaklcaejeaiagaaE
namespace Go.Proofs.YtaklcaejeaiagaaE
open Go.RowKit
def dStore (T : Tab) (H : Heap) (t : TypeId) (x v : DV) : Option (Prop × Heap) :=
  match T t, x with
  | some ti, .ptr b q i o =>
    match look H b with
    | some e => some (e.w = true ∧ q < e.m ∧ i < (e.row q).n ∧ 0 < ti.size ∧ (cellsOf v).length = ti.size ∧ o + ti.size ≤ (e.row q).z ∧ (cellsOf v).all DV.leaf = true, H.set b (some (e.upd q i (splice ((e.row q).at i) o (cellsOf v)))))
    | none => none
  | _, _ => none
/-- The row behind a write of some of its elements. -/
theorem row_written {n : Nat} {μ : Mu} {row row' : Row} {p : Spot} {w w' : World} {t : TypeId} {cs cs' : Array Value} (hr : RowOk n μ row p w) (hw : Wrote w w' p.g t cs cs') (hz : row'.z = row.z)
    (h : ∀ i, i < row'.n → (i < row.n ∧ row'.at i = row.at i ∧ ∀ j, j < row.z → cs'[p.o + i * p.z + j]? = cs[p.o + i * p.z + j]?) ∨
      ((row'.at i).length = row.z ∧ ∀ (j : Nat) d, (row'.at i)[j]? = some d → ∃ v, cs'[p.o + i * p.z + j]? = some v ∧ Leaf n μ d v)) : RowOk n μ row' p w' := by
  refine ⟨hr.z.trans hz.symm, fun hn => ⟨cs', t, (0, 0), hw.at1, fun i hi => ?_⟩⟩
  rcases h i hi with ⟨h1, h2, h3⟩ | ⟨h1, h2⟩
  · obtain ⟨cs0, t0, fz, hh, hc⟩ := hr.cells (by omega)
    rw [hw.at0] at hh
    obtain ⟨rfl, rfl, rfl⟩ := Obj.cells.inj (Option.some.inj hh)
    rw [h2, hz]
    refine ⟨(hc i h1).1, fun j d hd => ?_⟩
    obtain ⟨v, hv, hl⟩ := (hc i h1).2 j d hd
    exact ⟨v, by rw [h3 j (by have := (List.getElem?_eq_some_iff.1 hd).1; have := (hc i h1).1; omega)]; exact hv, hl⟩
  · rw [hz]; exact ⟨h1, h2⟩
theorem elem_apart {z i j k l : Nat} (hj : j < z) (hl : l < z) (h : i * z + j = k * z + l) : i = k ∧ j = l := by
  have h1 : (i * z + j) / z = i := by rw [Nat.mul_comm, Nat.mul_add_div (by omega), Nat.div_eq_of_lt hj]; rfl
  have h2 : (k * z + l) / z = k := by rw [Nat.mul_comm, Nat.mul_add_div (by omega), Nat.div_eq_of_lt hl]; rfl
  have : i = k := by rw [← h1, h, h2]
  subst this
  exact ⟨rfl, by omega⟩
theorem dStore_ok {P : Program} {T : Tab} (hT : TOk P T) {μ : Mu} {H H' : Heap} {w : World} (hH : HRel μ H w) {t : TypeId} {x v : DV} {p : Prop} {xv vv : Value} (h : dStore T H t x v = some (p, H')) (hp : p) (hx : VRel H.length μ x xv) (hv : VRel H.length μ v vv) :
    ∃ w', (Instr.storeAt t xv vv).run P w = .ok () w' ∧ Step μ H w μ H' w' := by
  unfold dStore at h
  split at h
  case h_2 => cases h
  rename_i ti b q i o hti
  split at h
  case h_2 => cases h
  rename_i e he
  obtain ⟨rfl, rfl⟩ := Prod.mk.inj (Option.some.inj h)
  obtain ⟨h1, h2, h3, h0, h4, h5, h6⟩ := hp
  obtain ⟨hb, rfl⟩ : b < H.length ∧ xv = .pointer (some (μ.loc b q i o)) := hx
  have hr := hH.rows b e he q h2
  obtain ⟨k1, k2⟩ := cells_ok hv h6
  obtain ⟨vs, hvs, hvl, hcell⟩ := hr.get h3
  have hlv : (μ b q).m ≠ some 0 := hH.lv he h2 h1 (.inr (by omega))
  obtain ⟨cs, t0, m, hg, hm1, hm2⟩ := hH.ownc he h1 h2 hlv
  have hlen : vv.cells.toList.length = ti.size := by rw [← k1.length, h4]
  have hz := hr.z
  have hin : ∀ j, j < (e.row q).z → (μ b q).o + i * (μ b q).z + j < cs.size := by
    intro j hj
    have hc := hcell j (vs[j]'(by omega)) (List.getElem?_eq_getElem (by omega))
    rw [cell_of_row w _ _ cs t0 (0, 0) hg] at hc
    exact (Array.getElem?_eq_some_iff.1 hc).1
  have hbound : (μ b q).o + i * (μ b q).z + o + 0 + vv.cells.toList.length ≤ cs.size := by
    have := hin ((e.row q).z - 1) (by omega)
    omega
  obtain ⟨w', cs', hrun, hwr, hov⟩ := run_storeCells_ok (P := P) (g := (μ b q).g) (off := (μ b q).o + i * (μ b q).z + o) vv.cells.toList 0 w cs hg hbound k2
  refine ⟨w', ?_, ?_⟩
  · have hsz := (hT _ _ hti).sizeOf w
    have hn : ¬ vv.cells.size ≠ ti.size := by simpa using hlen
    simp only [Instr.storeAt, Sem.run_bind, Instr.sureAddr, Sem.run_pure, Result.andThen_ok, storeVar, hsz, Sem.run_ite]
    rw [if_neg hn]
    simpa [Mu.loc] using hrun
  · refine hH.write he h1 h2 hlv hwr (Ent.upd_m ..) (by rw [Ent.upd_w]; exact h1) ?_ ?_
    · intro q' hqm hq'
      exact Ent.upd_other e h2 hqm hq' _ _
    · rw [Ent.upd_row e h2]
      refine row_written hr hwr (Row.upd_z ..) fun j hj => ?_
      rw [Row.upd_n] at hj
      rw [Row.upd_at _ h3]
      by_cases hji : j = i
      · subst hji
        right
        rw [if_pos rfl]
        have hla : ((e.row q).at j).length = (e.row q).z := by rw [hvs.length, hvl]
        refine ⟨by rw [splice_length (by omega)]; exact hla, fun l d hd => ?_⟩
        rw [splice_get (by omega)] at hd
        rw [hov]
        split at hd
        · rename_i hl
          rw [if_pos (by omega)]
          obtain ⟨u, hu, hr⟩ := k1.get hd
          exact ⟨u, by rw [← hu]; congr 1; omega, hr⟩
        · rename_i hl
          have hlt : l < (e.row q).z := by have := (List.getElem?_eq_some_iff.1 hd).1; omega
          rw [if_neg (by omega)]
          obtain ⟨u, hu, hr⟩ := hvs.get hd
          have := hcell l u hu
          rw [cell_of_row w _ _ cs t0 (0, 0) hg] at this
          exact ⟨u, this, hr⟩
      · left
        rw [if_neg hji]
        refine ⟨hj, rfl, fun l hl => ?_⟩
        rw [hov, if_neg]
        intro hh
        have : j * (μ b q).z + l = i * (μ b q).z + ((μ b q).o + j * (μ b q).z + l - (μ b q).o - i * (μ b q).z) := by omega
        exact hji (elem_apart (by omega) (by omega) this).1

/-! ### slices made -/
theorem getElem?_madeCells (z : Array Value) (n j : Nat) (hj : j < n) (hz : 0 < z.size) : (madeCells z n)[j]? = z[j % z.size]? := by
  have : j % z.size < z.size := Nat.mod_lt _ hz
  simp [madeCells, hj, this]
def dMake (T : Tab) (H : Heap) (t : TypeId) (l c : DV) : Option (Prop × DV × Heap) :=
  match T t with
  | some ⟨_, _, _, .slice e⟩ => match T e, l, c with
    | some ti, .int _ l, .int _ c => some (0 ≤ l ∧ l ≤ c ∧ (ti.bytes : Int) * c ≤ 281474976710656 ∧ c ≤ 9223372036854775807, .sl H.length 0 0 l.toNat c.toNat, newRow1 H (.arr ti.size c.toNat fun _ => ti.zero))
    | _, _, _ => none
  | _ => none
theorem dMake_ok {P : Program} {T : Tab} (hT : TOk P T) {μ : Mu} {H H' : Heap} {w : World} (hH : HRel μ H w) {t : TypeId} {l c v : DV} {p : Prop} {lv cv : Value} (h : dMake T H t l c = some (p, v, H')) (hp : p) (hl : VRel H.length μ l lv) (hc : VRel H.length μ c cv) :
    ∃ μ' v' w', (Instr.makeSlice t lv cv).run P w = .ok v' w' ∧ VRel H'.length μ' v v' ∧ Step μ H w μ' H' w' := by
  unfold dMake at h
  split at h
  case h_2 => cases h
  rename_i a1 a2 a3 e hti
  split at h
  case h_2 => cases h
  rename_i ti kl l kc c hte
  cases h
  obtain ⟨h1, h2, h3, h4⟩ := hp
  obtain rfl : lv = .int kl l := hl
  obtain rfl : cv = .int kc c := hc
  have hu := (hT _ _ hti).und
  simp only [TK.ok] at hu
  obtain ⟨info, z, i1, i2, i3, i4, i5⟩ := (hT _ _ hte).info
  have hzl := i5 H.length μ
  have hlen := hzl.length
  have htl := (hT _ _ hte).len
  have hrun := run_make (P := P) w t e info z hu i1 i4 kl kc l c h1 h2 (by rw [i3]; exact h3) h4
  refine ⟨_, _, _, hrun, ?_, alloc_new hH (m := c.toNat) (t := e) (by rw [size_madeCells, i2]; exact Nat.le_refl _) id fun i hi => ⟨htl, fun j d hd => ?_⟩⟩
  · refine ⟨by rw [newRow1_len]; omega, .inr ⟨⟨w.heap.size, 0, none⟩, c.toNat, rfl, by omega, Nat.le_refl _, .inr ⟨?_, fun m hm => ?_⟩⟩⟩
    · simp [Mu.loc, Mu.ext_at]
    · rw [Mu.ext_at] at hm; cases hm; omega
  · simp only [Row.at, Row.n, Row.z] at hd hi ⊢
    obtain ⟨u, hu2, hr⟩ := hzl.get hd
    have hj : j < ti.size := by have := (List.getElem?_eq_some_iff.1 hd).1; omega
    have hzs : z.cells.size = ti.size := by simp at hlen; omega
    refine ⟨u, ?_, hr⟩
    have hlt : i * ti.size + j < c.toNat * info.size := by
      rw [i2]
      calc i * ti.size + j < i * ti.size + ti.size := by omega
        _ = (i + 1) * ti.size := by rw [Nat.add_mul]; omega
        _ ≤ c.toNat * ti.size := Nat.mul_le_mul_right _ hi
    rw [getElem?_madeCells _ _ _ hlt (by omega), hzs, Nat.mul_comm i, Nat.mul_add_mod, Nat.mod_eq_of_lt hj]
    simpa using hu2
end Go.Proofs.YtaklcaejeaiagaaE
namespace Go.Proofs.YtaklcaejeaiagaaE
open Go.RowKit
def dElems (z : Nat) (els : List (List DV)) : List (Nat × DV) → Option (List (List DV))
  | [] => some els
  | (i, x) :: rest => if i < els.length ∧ (cellsOf x).length = z ∧ (cellsOf x).all DV.leaf = true then dElems z (els.set i (cellsOf x)) rest else none
def elemsRel (n : Nat) (μ : Mu) (z : Nat) (els : List (List DV)) (cs : Array Value) : Prop :=
  cs.size = els.length * z ∧ ∀ i es, els[i]? = some es → es.length = z ∧ ∀ j d, es[j]? = some d → ∃ v, cs[i * z + j]? = some v ∧ Leaf n μ d v
theorem dElems_ok {n : Nat} {μ : Mu} {z : Nat} : ∀ {dp : List (Nat × DV)} {vp : List (Nat × Value)} {els els' : List (List DV)} {vc : Array Value}, L2 (fun p q => p.1 = q.1 ∧ VRel n μ p.2 q.2) dp vp → elemsRel n μ z els vc → dElems z els dp = some els' →
    ∃ vc', Instr.fill (fun i => some (i * z, z)) vc vp = some vc' ∧ elemsRel n μ z els' vc'
  | [], [], _, _, vc, _, hc, h => by cases h; exact ⟨vc, rfl, hc⟩
  | (i, x) :: dp, (i', v) :: vp, els, els', vc, hp, hc, h => by
    obtain ⟨⟨h0, hx⟩, hp⟩ := hp
    simp only at h0 hx
    subst h0
    simp only [dElems] at h
    split at h
    case isFalse => cases h
    rename_i hh
    obtain ⟨h1, h2, h3⟩ := hh
    obtain ⟨k1, k2⟩ := cells_ok hx h3
    have hlen : v.cells.size = z := by have := k1.length; simp at this; omega
    have hb : i * z + z ≤ vc.size := by
      rw [hc.1]
      calc i * z + z = (i + 1) * z := by rw [Nat.add_mul]; omega
        _ ≤ els.length * z := Nat.mul_le_mul_right _ h1
    obtain ⟨f1, f2⟩ := overlay_fold (off := i * z) v.cells.toList 0 vc (by simp; omega)
    have hf : v.cells.zipIdx.foldl (fun cs p => cs.setIfInBounds (i * z + p.2) p.1) vc = ((v.cells.toList.zipIdx 0).foldl (fun cs p => cs.setIfInBounds (i * z + p.2) p.1) vc) := by
      rw [← Array.foldl_toList, Array.toList_zipIdx]
    have hs : elemsRel n μ z (els.set i (cellsOf x)) ((v.cells.toList.zipIdx 0).foldl (fun cs p => cs.setIfInBounds (i * z + p.2) p.1) vc) := by
      refine ⟨by rw [f2, hc.1]; simp, fun k es hk => ?_⟩
      rw [List.getElem?_set] at hk
      split at hk
      · rename_i hik
        subst hik
        obtain rfl := Option.some.inj hk
        refine ⟨h2, fun j d hd => ?_⟩
        have hj : j < z := by have := (List.getElem?_eq_some_iff.1 hd).1; omega
        obtain ⟨u, hu, hr⟩ := k1.get hd
        refine ⟨u, ?_, hr⟩
        rw [f1, if_pos (by simp; omega), ← hu]
        congr 1; omega
      · rename_i hik
        obtain ⟨g1, g2⟩ := hc.2 k es hk
        refine ⟨g1, fun j d hd => ?_⟩
        have hj : j < z := by have := (List.getElem?_eq_some_iff.1 hd).1; omega
        obtain ⟨u, hu, hr⟩ := g2 j d hd
        refine ⟨u, ?_, hr⟩
        rw [f1, if_neg, hu]
        intro hh
        simp only [Nat.add_zero, Array.length_toList] at hh
        have : k * z + j = i * z + (k * z + j - i * z) := by omega
        exact hik (elem_apart hj (by omega) this).1.symm
    obtain ⟨vc', g1, g2⟩ := dElems_ok hp hs h
    refine ⟨vc', ?_, g2⟩
    have hcond : ¬ (decide (v.cells.size ≠ z) || decide (i * z + v.cells.size > vc.size)) = true := by simp; omega
    unfold Instr.fill
    simp only
    rw [if_neg hcond, ← g1, ← hf]
  | [], _ :: _, _, _, _, h, _, _ => h.elim
  | _ :: _, [], _, _, _, h, _, _ => h.elim
def dBuildSlice (T : Tab) (H : Heap) (t : TypeId) (len : Nat) (parts : List (Nat × DV)) : Option (DV × Heap) :=
  match T t with
  | some ⟨_, _, _, .slice e⟩ => match T e with
    | some ti => if 0 < ti.size ∧ len * ti.size ≤ 16777216 then match dElems ti.size (List.replicate len ti.zero) parts with
      | some els => some (.sl H.length 0 0 len len, newRow1 H (.lst ti.size els))
      | none => none
      else none
    | none => none
  | _ => none
theorem dElems_length {z : Nat} : ∀ {dp : List (Nat × DV)} {els els' : List (List DV)}, dElems z els dp = some els' → els'.length = els.length
  | [], _, _, h => by cases h; rfl
  | (i, x) :: dp, els, els', h => by
    simp only [dElems] at h
    split at h
    · rw [dElems_length h]; simp
    · cases h
theorem dBuildSlice_ok {P : Program} {T : Tab} (hT : TOk P T) {μ : Mu} {H H' : Heap} {w : World} (hH : HRel μ H w) {t : TypeId} {len : Nat} {v : DV} {dp : List (Nat × DV)} {vp : Array (Nat × Value)} (h : dBuildSlice T H t len dp = some (v, H')) (hp : L2 (fun p q => p.1 = q.1 ∧ VRel H.length μ p.2 q.2) dp vp.toList) :
    ∃ μ' v' w', (Instr.buildSlice t len vp).run P w = .ok v' w' ∧ VRel H'.length μ' v v' ∧ Step μ H w μ' H' w' := by
  unfold dBuildSlice at h
  split at h
  case h_2 => cases h
  rename_i a1 a2 a3 e hti
  split at h
  case h_2 => cases h
  rename_i ti hte
  split at h
  case isFalse => cases h
  rename_i hsz
  obtain ⟨hs0, hs1⟩ := hsz
  split at h
  case h_2 => cases h
  rename_i els hels
  cases h
  have hu := (hT _ _ hti).und
  simp only [TK.ok] at hu
  have ht := hT _ _ hte
  obtain ⟨z, hz, hzl⟩ := ht.zero w
  have hzl := hzl H.length μ
  have hlen := hzl.length
  have htl := ht.len
  have hzs : z.cells.size = ti.size := by simp at hlen; omega
  have h0 : elemsRel H.length μ ti.size (List.replicate len ti.zero) ((Array.range (len * ti.size)).map (z.cells[· % z.cells.size]!)) := by
    refine ⟨by simp, fun i es hi => ?_⟩
    rw [List.getElem?_replicate] at hi
    split at hi
    case isFalse => cases hi
    rename_i hil
    obtain rfl := Option.some.inj hi
    refine ⟨htl, fun j d hd => ?_⟩
    obtain ⟨u, hu2, hr⟩ := hzl.get hd
    have hj : j < ti.size := by have := (List.getElem?_eq_some_iff.1 hd).1; omega
    have hlt : i * ti.size + j < len * ti.size := by
      calc i * ti.size + j < i * ti.size + ti.size := by omega
        _ = (i + 1) * ti.size := by rw [Nat.add_mul]; omega
        _ ≤ len * ti.size := Nat.mul_le_mul_right _ hil
    refine ⟨u, ?_, hr⟩
    have := getElem?_madeCells z.cells (len * ti.size) (i * ti.size + j) hlt (by omega)
    unfold madeCells at this
    rw [this, hzs, Nat.mul_comm i, Nat.mul_add_mod, Nat.mod_eq_of_lt hj]
    simpa using hu2
  obtain ⟨vc', g1, g2⟩ := dElems_ok hp h0 hels
  have hel : els.length = len := by rw [dElems_length hels]; simp
  refine ⟨_, .slice (some ⟨w.heap.size, 0, none⟩) len len, w.alloc (.cells vc' e), ?_, ?_, alloc_new hH (m := len) (t := e) (cs := vc') (by rw [g2.1, hel]; exact Nat.le_refl _) (fun h => by simpa [Row.n, hel] using h) fun i hi => ?_⟩
  · have hlim : ¬ len * ti.size > 2 ^ 24 := by omega
    by_cases hn : len * ti.size = 0
    · rw [hn, Array.range_zero'] at g1
      simp only [Array.map_empty] at g1
      simp only [Instr.buildSlice, Sem.run_bind, run_underlying hu, Result.andThen_ok, ht.sizeOf, Sem.run_ite, hn]
      simp [Array.range_zero', g1, newRow]
    · simp only [Instr.buildSlice, Sem.run_bind, run_underlying hu, Result.andThen_ok, ht.sizeOf, Sem.run_ite, hn, hlim, if_false, hz, Sem.run_pure, g1]
      simp [newRow]
  · refine ⟨by rw [newRow1_len]; omega, .inr ⟨⟨w.heap.size, 0, none⟩, len, rfl, Nat.le_refl _, Nat.le_refl _, .inr ⟨by simp [Mu.loc, Mu.ext_at], fun m hm => ?_⟩⟩⟩
    rw [Mu.ext_at] at hm; cases hm; omega
  · simp only [Row.n, Row.z, Row.at] at hi ⊢
    have he : els[i]? = some els[i] := List.getElem?_eq_getElem hi
    obtain ⟨k1, k2⟩ := g2.2 i _ he
    rw [List.getD_eq_getElem?_getD, he]
    exact ⟨k1, k2⟩

/-! ### builtins that read -/
def dLen (T : Tab) (t : TypeId) (x : DV) : Option DV :=
  match T t with
  | some ⟨_, _, _, .slice _⟩ => match x with
    | .sl _ _ _ len _ => some (.int .i64 len)
    | .nils => some (.int .i64 0)
    | _ => none
  | some ⟨_, _, _, .str⟩ => match x with
    | .str s => some (.int .i64 s.size)
    | _ => none
  | _ => none
theorem dLen_ok {P : Program} {T : Tab} (hT : TOk P T) {n : Nat} {μ : Mu} {w : World} {t ty : TypeId} {x v : DV} {xv : Value} (h : dLen T t x = some v) (hx : VRel n μ x xv) : ∃ v', (Builtin.len_ #[t] ty #[xv]).run P w = .ok v' w ∧ VRel n μ v v' := by
  unfold dLen at h
  split at h
  · rename_i hti
    have hu := (hT _ _ hti).und
    simp only [TK.ok] at hu
    split at h
    · cases h
      obtain ⟨hb, hx⟩ := hx
      rcases hx with ⟨rfl, _, rfl⟩ | ⟨a, c, rfl, _⟩
      · exact ⟨_, run_len_slice w t ty _ _ _ (und_slice hu), rfl⟩
      · exact ⟨_, run_len_slice w t ty _ _ _ (und_slice hu), rfl⟩
    · cases h
      obtain rfl : xv = _ := hx
      exact ⟨_, run_len_slice w t ty _ _ _ (und_slice hu), rfl⟩
    · cases h
  · rename_i hti
    have hu := (hT _ _ hti).und
    simp only [TK.ok] at hu
    split at h
    · cases h
      obtain rfl : xv = _ := hx
      exact ⟨_, run_len_string w t ty _ hu, rfl⟩
    · cases h
  · cases h

/-! ### all operations that need no choice -/
def optMap (r : List DV) : Option Operand → Option DV
  | some x => some (ev r x)
  | none => none
def dCaps : List DV → Option (List Nat)
  | [] => some []
  | .ptr b 0 0 0 :: l => (dCaps l).map (b :: ·)
  | _ :: _ => none
theorem dCaps_ok {n : Nat} {μ : Mu} : ∀ {l : List DV} {vs : List Value} {caps : List Nat}, dCaps l = some caps → L2 (VRel n μ) l vs → (∀ b ∈ caps, b < n) ∧ vs = caps.map fun b => Value.pointer (some (μ.loc b 0 0 0))
  | [], [], _, h, _ => by cases h; exact ⟨by simp, rfl⟩
  | x :: l, v :: vs, caps, h, hr => by
    unfold dCaps at h
    split at h
    · rename_i heq; cases heq
    · rename_i b l' heq
      cases heq
      cases hc : dCaps l with
      | none => rw [hc] at h; cases h
      | some c =>
        rw [hc] at h
        cases h
        obtain ⟨h1, h2⟩ := dCaps_ok hc hr.2
        obtain ⟨hb, hv⟩ : b < n ∧ v = .pointer (some (μ.loc b 0 0 0)) := hr.1
        exact ⟨by simpa using ⟨hb, h1⟩, by rw [h2, hv]; rfl⟩
    · cases h
  | [], _ :: _, _, _, h => h.elim
  | _ :: _, [], _, _, h => h.elim
def pureO (x : Option DV) (H : Heap) : Option (Prop × DV × Heap) := x.map fun v => (True, v, H)
def pureP (x : Option (Prop × DV)) (H : Heap) : Option (Prop × DV × Heap) := x.map fun p => (p.1, p.2, H)
def newP (x : Option (DV × Heap)) : Option (Prop × DV × Heap) := x.map fun p => (True, p.1, p.2)
def dBuiltin (T : Tab) (b : Builtin) (ts : List TypeId) (xs : List DV) : Option DV :=
  match b, ts, xs with
  | .len, [t], [x] => dLen T t x
  | .min, _, [.int k x, .int _ y] => some (.int k (if y < x then y else x))
  | .max, _, [.int k x, .int _ y] => some (.int k (if y > x then y else x))
  | .min, _, [.int k x, .int _ y, .int _ z] => some (.int k (if z < (if y < x then y else x) then z else (if y < x then y else x)))
  | .max, _, [.int k x, .int _ y, .int _ z] => some (.int k (if z > (if y > x then y else x) then z else (if y > x then y else x)))
  | _, _, _ => none
def dBinB (T : Tab) (op : BinOp) (t : TypeId) (a : Bool) (y : DV) : Option (Prop × DV) :=
  match T t with
  | some ⟨_, _, _, .bool⟩ => match y with
    | .bool b => match op with
      | .eql => some (True, .bool (a == b))
      | .neq => some (True, .bool (!(a == b)))
      | _ => none
    | _ => none
  | _ => none
theorem dBinB_ok {P : Program} {T : Tab} (hT : TOk P T) {n : Nat} {μ : Mu} {op : BinOp} {t : TypeId} {ox oy : Operand} {a : Bool} {y v : DV} {q : Prop} {yv : Value} (h : dBinB T op t a y = some (q, v)) (hy : VRel n μ y yv) (w : World) :
    ∃ v', ((do eqGuard op t ox oy (.bool a) yv; binOp op t (.bool a) yv : Sem Value)).run P w = .ok v' w ∧ VRel n μ v v' := by
  unfold dBinB at h
  split at h
  case h_2 => cases h
  rename_i hTt
  have hu : P.underlying t = some .bool := (hT t _ hTt).und
  split at h
  case h_2 => cases h
  rename_i b
  obtain rfl : yv = .bool b := hy
  have hg : eqGuard op t ox oy (.bool a) (.bool b) = pure () := eqGuard_at_bool ..
  rw [hg]
  split at h
  · obtain ⟨rfl, rfl⟩ := Prod.mk.inj (Option.some.inj h)
    exact ⟨_, by simp only [Sem.run_bind, Sem.run_pure, Result.andThen_ok]; exact run_eql_bool w t a b hu, rfl⟩
  · obtain ⟨rfl, rfl⟩ := Prod.mk.inj (Option.some.inj h)
    exact ⟨_, by simp only [Sem.run_bind, Sem.run_pure, Result.andThen_ok]; exact run_neq_bool w t a b hu, rfl⟩
  · cases h
theorem opt_ok {n : Nat} {μ : Mu} {r : List DV} {a : Act} (h : L2 (VRel n μ) r a.tmps.toList) (x : Option Operand) : OptRel n μ (optMap r x) (x.map a.eval) := by
  cases x with
  | none => trivial
  | some x => exact ev_ok h x
theorem parts_ok {n : Nat} {μ : Mu} {r : List DV} {a : Act} (h : L2 (VRel n μ) r a.tmps.toList) (ps : Array (Nat × Operand)) : L2 (fun p q => p.1 = q.1 ∧ VRel n μ p.2 q.2) (ps.toList.map fun p => (p.1, ev r p.2)) ((ps.map fun (i, x) => (i, a.eval x))).toList := by
  rw [Array.toList_map]
  generalize ps.toList = l
  induction l with
  | nil => trivial
  | cons p l ih => exact ⟨⟨rfl, ev_ok h p.2⟩, ih⟩
theorem args_ok {n : Nat} {μ : Mu} {r : List DV} {a : Act} (h : L2 (VRel n μ) r a.tmps.toList) (xs : Array Operand) : L2 (VRel n μ) (xs.toList.map (ev r)) (xs.map a.eval).toList := by
  rw [Array.toList_map]
  generalize xs.toList = l
  induction l with
  | nil => trivial
  | cons p l ih => exact ⟨ev_ok h p, ih⟩
end Go.Proofs.YtaklcaejeaiagaaE
