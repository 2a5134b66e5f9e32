/- A part of the proof of a law of the given program: the logic of runs over laid-out memory. No condition of its own. -/
import Derived.WalkKit
import Derived.KernelRfl
namespace Go.Proofs.YtkpojkhedmeneaaE
open Go.RowKit

/-! ### lists side by side -/
def L2 {α β : Type} (R : α → β → Prop) : List α → List β → Prop
  | [], [] => True
  | a :: as, b :: bs => R a b ∧ L2 R as bs
  | _, _ => False
section
variable {α β : Type} {R S : α → β → Prop}
theorem L2.length : ∀ {l : List α} {m : List β}, L2 R l m → l.length = m.length
  | [], [], _ => rfl
  | _ :: as, _ :: bs, h => by simp [L2.length h.2]
  | [], _ :: _, h => h.elim
  | _ :: _, [], h => h.elim
theorem L2.get : ∀ {l : List α} {m : List β} {i : Nat} {a : α}, L2 R l m → l[i]? = some a → ∃ b, m[i]? = some b ∧ R a b
  | [], _, i, a, _, h => by simp at h
  | x :: as, b :: bs, 0, a, h, e => ⟨b, rfl, by simp at e; exact e ▸ h.1⟩
  | x :: as, b :: bs, i + 1, a, h, e => by simpa using L2.get (i := i) h.2 (by simpa using e)
  | _ :: _, [], _, _, h, _ => h.elim
theorem L2.get' : ∀ {l : List α} {m : List β} {i : Nat} {b : β}, L2 R l m → m[i]? = some b → ∃ a, l[i]? = some a ∧ R a b
  | [], [], i, a, _, h => by simp at h
  | x :: as, b :: bs, 0, a, h, e => ⟨x, rfl, by simp at e; exact e ▸ h.1⟩
  | x :: as, b :: bs, i + 1, a, h, e => by simpa using L2.get' (i := i) h.2 (by simpa using e)
  | _ :: _, [], _, _, h, _ => h.elim
  | [], _ :: _, _, _, h, _ => h.elim
theorem L2.of : ∀ {l : List α} {m : List β}, l.length = m.length → (∀ (i : Nat) (a : α) (b : β), l[i]? = some a → m[i]? = some b → R a b) → L2 R l m
  | [], [], _, _ => trivial
  | a :: as, b :: bs, hl, h => ⟨h 0 a b rfl rfl, L2.of (by simpa using hl) fun i x y hx hy => h (i + 1) x y (by simpa using hx) (by simpa using hy)⟩
  | [], _ :: _, hl, _ => by simp at hl
  | _ :: _, [], hl, _ => by simp at hl
theorem L2.mono (h : ∀ a b, R a b → S a b) : ∀ {l : List α} {m : List β}, L2 R l m → L2 S l m
  | [], [], _ => trivial
  | _ :: _, _ :: _, k => ⟨h _ _ k.1, L2.mono h k.2⟩
  | [], _ :: _, k => k.elim
  | _ :: _, [], k => k.elim
theorem L2.set {a : α} {b : β} (hab : R a b) : ∀ {l : List α} {m : List β} (i : Nat), L2 R l m → L2 R (l.set i a) (m.set i b)
  | [], [], _, _ => trivial
  | _ :: _, _ :: _, 0, k => ⟨hab, k.2⟩
  | _ :: _, _ :: _, i + 1, k => ⟨k.1, L2.set hab i k.2⟩
  | [], _ :: _, _, k => k.elim
  | _ :: _, [], _, k => k.elim
theorem L2.append {l l' : List α} {m m' : List β} (h : L2 R l m) (h' : L2 R l' m') : L2 R (l ++ l') (m ++ m') := by
  induction l generalizing m with
  | nil => cases m with
    | nil => exact h'
    | cons _ _ => exact h.elim
  | cons a l ih => cases m with
    | nil => exact h.elim
    | cons b m => exact ⟨h.1, ih h.2⟩
theorem L2.drop {l : List α} {m : List β} (h : L2 R l m) (n : Nat) : L2 R (l.drop n) (m.drop n) := by
  refine L2.of (by simp [h.length]) fun i a b ha hb => ?_
  rw [List.getElem?_drop] at ha hb
  obtain ⟨b', hb', r⟩ := h.get ha
  rw [hb] at hb'
  exact Option.some.inj hb' ▸ r
theorem L2.take {l : List α} {m : List β} (h : L2 R l m) (n : Nat) : L2 R (l.take n) (m.take n) := by
  refine L2.of (by simp [h.length]) fun i a b ha hb => ?_
  rw [List.getElem?_take] at ha hb
  split at ha
  · rename_i hi
    rw [if_pos hi] at hb
    obtain ⟨b', hb', r⟩ := h.get ha
    rw [hb] at hb'
    exact Option.some.inj hb' ▸ r
  · cases ha
theorem L2.map {γ : Type} {f : γ → β} {l : List α} {m : List γ} (h : L2 (fun a c => R a (f c)) l m) : L2 R l (m.map f) := by
  induction l generalizing m with
  | nil => cases m with
    | nil => trivial
    | cons _ _ => exact h.elim
  | cons a l ih => cases m with
    | nil => exact h.elim
    | cons b m => exact ⟨h.1, ih h.2⟩
theorem L2.trans {γ : Type} {T : α → β → Prop} {U : β → γ → Prop} {V : α → γ → Prop} (k : ∀ a b c, T a b → U b c → V a c) : ∀ {l : List α} {m : List β} {n : List γ}, L2 T l m → L2 U m n → L2 V l n
  | [], [], [], _, _ => trivial
  | _ :: _, _ :: _, _ :: _, h, h' => ⟨k _ _ _ h.1 h'.1, L2.trans k h.2 h'.2⟩
  | [], _ :: _, _, h, _ => h.elim
  | _ :: _, [], _, h, _ => h.elim
  | [], [], _ :: _, _, h => h.elim
  | _ :: _, _ :: _, [], _, h => h.elim
theorem L2.replicate {a : α} {b : β} (h : R a b) : ∀ n, L2 R (List.replicate n a) (List.replicate n b)
  | 0 => trivial
  | n + 1 => ⟨h, L2.replicate h n⟩
end

/-! ### values, rows, heaps -/
inductive DV where
  | any
  | int (k : IntKind) (n : Int)
  | bool (b : Bool)
  | str (s : ByteArray)
  | nilp
  | ptr (b q i o : Nat)
  | nils
  | sl (b q i len cap : Nat)
  | fn (f : FuncId) (caps : List Nat)
  | agg (l : List DV)
  | tup (l : List DV)
instance : Inhabited DV := ⟨.any⟩
abbrev DV.i64 (n : Int) : DV := .int .i64 n
inductive Row where
  | lst (z : Nat) (xs : List (List DV))
  | arr (z n : Nat) (f : Nat → List DV)
def Row.z : Row → Nat
  | .lst z _ => z
  | .arr z _ _ => z
def Row.n : Row → Nat
  | .lst _ xs => xs.length
  | .arr _ n _ => n
def Row.at : Row → Nat → List DV
  | .lst _ xs, i => xs.getD i []
  | .arr _ _ f, i => f i
inductive Ent where
  | one (w : Bool) (r : Row)
  | fam (w : Bool) (m : Nat) (f : Nat → Row)
def Ent.w : Ent → Bool
  | .one w _ => w
  | .fam w _ _ => w
def Ent.m : Ent → Nat
  | .one _ _ => 1
  | .fam _ m _ => m
def Ent.row : Ent → Nat → Row
  | .one _ r, _ => r
  | .fam _ _ f, q => f q
abbrev Heap := List (Option Ent)
def look (H : Heap) (b : Nat) : Option Ent := (H[b]?).join
theorem look_some {H : Heap} {b : Nat} {e : Ent} : look H b = some e ↔ H[b]? = some (some e) := by
  unfold look
  cases h : H[b]? with
  | none => simp
  | some x => simp
theorem look_lt {H : Heap} {b : Nat} {e : Ent} (h : look H b = some e) : b < H.length := by
  rw [look_some] at h
  exact (List.getElem?_eq_some_iff.1 h).1

/-! ### where an abstract block lies -/
structure Spot where
  g : Nat
  o : Nat
  z : Nat
  m : Option Nat
abbrev Mu := Nat → Nat → Spot
def Mu.loc (μ : Mu) (b q i o : Nat) : Addr := ⟨(μ b q).g, (μ b q).o + i * (μ b q).z + o, none⟩
def Leaf (n : Nat) (μ : Mu) : DV → Value → Prop
  | .any, _ => True
  | .int k x, v => v = .int k x
  | .bool b, v => v = .bool b
  | .str s, v => v = .string s
  | .nilp, v => v = .pointer none
  | .ptr b q i o, v => b < n ∧ v = .pointer (some (μ.loc b q i o))
  | .nils, v => v = .slice none 0 0
  | .sl b q i len cap, v => b < n ∧ ((len = 0 ∧ cap = 0 ∧ v = .slice none 0 0) ∨
      ∃ a c, v = .slice (some a) len c ∧ len ≤ c ∧ cap ≤ c ∧ (c = 0 ∨ (a = μ.loc b q i 0 ∧ ∀ m, (μ b q).m = some m → i + c ≤ m)))
  | .fn f caps, v => (∀ b ∈ caps, b < n) ∧ v = .func (.func f) #[] (caps.map fun b => Value.pointer (some (μ.loc b 0 0 0))).toArray
  | .agg _, _ => False
  | .tup _, _ => False
def Elem (n : Nat) (μ : Mu) : DV → Value → Prop
  | .agg l, v => ∃ vs : Array Value, v = .agg vs ∧ L2 (Leaf n μ) l vs.toList
  | x, v => Leaf n μ x v
def VRel (n : Nat) (μ : Mu) : DV → Value → Prop
  | .tup l, v => ∃ vs : Array Value, v = .tuple vs ∧ L2 (Elem n μ) l vs.toList
  | x, v => Elem n μ x v
/-- 'μ'' says of the blocks below 'n' what 'μ' says. -/
def Same (n : Nat) (μ μ' : Mu) : Prop := ∀ b, b < n → μ' b = μ b
theorem Same.refl (n : Nat) (μ : Mu) : Same n μ μ := fun _ _ => rfl
theorem Same.trans {n n' : Nat} {μ μ' μ'' : Mu} (h : Same n μ μ') (hn : n ≤ n') (h' : Same n' μ' μ'') : Same n μ μ'' :=
  fun b hb => (h' b (Nat.lt_of_lt_of_le hb hn)).trans (h b hb)
theorem Same.loc {n : Nat} {μ μ' : Mu} (h : Same n μ μ') {b : Nat} (hb : b < n) (q i o : Nat) : μ'.loc b q i o = μ.loc b q i o := by
  unfold Mu.loc; rw [h b hb]
theorem Leaf.same {n n' : Nat} {μ μ' : Mu} (h : Same n μ μ') (hn : n ≤ n') {x : DV} {v : Value} (k : Leaf n μ x v) : Leaf n' μ' x v := by
  cases x with
  | ptr b q i o => exact ⟨Nat.lt_of_lt_of_le k.1 hn, by rw [h.loc k.1]; exact k.2⟩
  | sl b q i len cap =>
    refine ⟨Nat.lt_of_lt_of_le k.1 hn, ?_⟩
    rcases k.2 with k2 | ⟨a, c, h1, h2, h3, h4⟩
    · exact .inl k2
    · refine .inr ⟨a, c, h1, h2, h3, ?_⟩
      rw [h.loc k.1, h b k.1]; exact h4
  | fn f caps =>
    refine ⟨fun b hb => Nat.lt_of_lt_of_le (k.1 b hb) hn, ?_⟩
    rw [k.2]
    congr 2
    exact List.map_congr_left fun b hb => by rw [h.loc (k.1 b hb)]
  | _ => exact k
theorem Elem.same {n n' : Nat} {μ μ' : Mu} (h : Same n μ μ') (hn : n ≤ n') {x : DV} {v : Value} (k : Elem n μ x v) : Elem n' μ' x v := by
  cases x with
  | agg l => obtain ⟨vs, rfl, k⟩ := k; exact ⟨vs, rfl, k.mono fun _ _ => Leaf.same h hn⟩
  | tup l => exact (show Leaf n μ (.tup l) v from k).elim
  | any => exact trivial
  | ptr b q i o => exact Leaf.same (x := .ptr b q i o) h hn k
  | sl b q i len cap => exact Leaf.same (x := .sl b q i len cap) h hn k
  | fn f caps => exact Leaf.same (x := .fn f caps) h hn k
  | _ => exact k
theorem VRel.same {n n' : Nat} {μ μ' : Mu} (h : Same n μ μ') (hn : n ≤ n') {x : DV} {v : Value} (k : VRel n μ x v) : VRel n' μ' x v := by
  cases x with
  | tup l => obtain ⟨vs, rfl, k⟩ := k; exact ⟨vs, rfl, k.mono fun _ _ => Elem.same h hn⟩
  | agg l => exact Elem.same (x := .agg l) h hn k
  | any => exact trivial
  | ptr b q i o => exact Leaf.same (x := .ptr b q i o) h hn k
  | sl b q i len cap => exact Leaf.same (x := .sl b q i len cap) h hn k
  | fn f caps => exact Leaf.same (x := .fn f caps) h hn k
  | _ => exact k

/-! ### the abstract heap and the world -/
structure RowOk (n : Nat) (μ : Mu) (row : Row) (p : Spot) (w : World) : Prop where
  z : p.z = row.z
  cells : 0 < row.n → ∃ cs t fz, w.heap[p.g]? = some (.cells cs t fz) ∧ ∀ i, i < row.n → (row.at i).length = row.z ∧
    ∀ j d, (row.at i)[j]? = some d → ∃ v, cs[p.o + i * p.z + j]? = some v ∧ Leaf n μ d v
/-- A block that is there at all: one of the call's own that has room, or a row that has elements. -/
def Lv (μ : Mu) (b q : Nat) (e : Ent) : Prop := (e.w = true ∧ (μ b q).m ≠ some 0) ∨ 0 < (e.row q).n
structure HRel (μ : Mu) (H : Heap) (w : World) : Prop where
  rows : ∀ b e, look H b = some e → ∀ q, q < e.m → RowOk H.length μ (e.row q) (μ b q) w
  own : ∀ b e, look H b = some e → e.w = true → ∀ q, q < e.m → ∃ m, (μ b q).m = some m ∧ (0 < (e.row q).n → 0 < m) ∧ (0 < m → ∃ cs t, w.heap[(μ b q).g]? = some (.cells cs t (0, 0)) ∧
    (μ b q).o + m * (μ b q).z ≤ cs.size)
  inj : ∀ b e q b' e' q', look H b = some e → e.w = true → q < e.m → (μ b q).m ≠ some 0 → look H b' = some e' → q' < e'.m → (b ≠ b' ∨ q ≠ q') → Lv μ b' q' e' → (μ b q).g ≠ (μ b' q').g
structure Step (μ : Mu) (H : Heap) (w : World) (μ' : Mu) (H' : Heap) (w' : World) : Prop where
  os : w'.os = w.os
  tape : w'.tape = w.tape
  output : w'.output = w.output
  size : w.heap.size ≤ w'.heap.size
  frame : ∀ k, k < w.heap.size → (∀ b e q, look H b = some e → e.w = true → q < e.m → (μ b q).m ≠ some 0 → (μ b q).g ≠ k) → w'.heap[k]? = w.heap[k]?
  mu : Same H.length μ μ'
  len : H.length ≤ H'.length
  hrel : HRel μ' H' w'
  fresh : ∀ b e q, look H' b = some e → e.w = true → q < e.m → (μ' b q).m ≠ some 0 → w.heap.size ≤ (μ' b q).g ∨ ∃ b0 e0 q0, look H b0 = some e0 ∧ e0.w = true ∧ q0 < e0.m ∧ (μ b0 q0).m ≠ some 0 ∧ (μ b0 q0).g = (μ' b q).g
theorem HRel.lv {μ : Mu} {H : Heap} {w : World} (h : HRel μ H w) {b : Nat} {e : Ent} {q : Nat} (hb : look H b = some e) (hq : q < e.m) (hw : e.w = true) (hl : Lv μ b q e) : (μ b q).m ≠ some 0 := by
  rcases hl with hl | hl
  · exact hl.2
  · obtain ⟨m, h1, h2, _⟩ := h.own b e hb hw q hq
    have := h2 hl
    rw [h1]; intro h; cases h; omega
theorem HRel.ownc {μ : Mu} {H : Heap} {w : World} (h : HRel μ H w) {b : Nat} {e : Ent} {q : Nat} (hb : look H b = some e) (hw : e.w = true) (hq : q < e.m) (hl : (μ b q).m ≠ some 0) :
    ∃ cs t m, w.heap[(μ b q).g]? = some (.cells cs t (0, 0)) ∧ (μ b q).m = some m ∧ (μ b q).o + m * (μ b q).z ≤ cs.size := by
  obtain ⟨m, h1, _, h3⟩ := h.own b e hb hw q hq
  have : 0 < m := by rcases Nat.eq_zero_or_pos m with h | h; (subst h; exact absurd h1 hl); exact h
  obtain ⟨cs, t, k1, k2⟩ := h3 this
  exact ⟨cs, t, m, k1, h1, k2⟩
theorem HRel.lt {μ : Mu} {H : Heap} {w : World} (h : HRel μ H w) {b : Nat} {e : Ent} {q : Nat} (hb : look H b = some e) (hq : q < e.m) (hl : Lv μ b q e) : (μ b q).g < w.heap.size := by
  rcases hl with hl | hl
  · obtain ⟨cs, t, m, hh, _⟩ := h.ownc hb hl.1 hq hl.2
    exact (Array.getElem?_eq_some_iff.1 hh).1
  · obtain ⟨cs, t, fz, hh, _⟩ := (h.rows b e hb q hq).cells hl
    exact (Array.getElem?_eq_some_iff.1 hh).1
theorem Step.refl {μ : Mu} {H : Heap} {w : World} (h : HRel μ H w) : Step μ H w μ H w :=
  ⟨rfl, rfl, rfl, Nat.le_refl _, fun _ _ _ => rfl, Same.refl _ _, Nat.le_refl _, h, fun b e q hb hw hq hl => .inr ⟨b, e, q, hb, hw, hq, hl, rfl⟩⟩
theorem Step.trans {μ μ₁ μ₂ : Mu} {H H₁ H₂ : Heap} {w w₁ w₂ : World} (h : Step μ H w μ₁ H₁ w₁) (k : Step μ₁ H₁ w₁ μ₂ H₂ w₂) : Step μ H w μ₂ H₂ w₂ where
  os := k.os.trans h.os
  tape := k.tape.trans h.tape
  output := k.output.trans h.output
  size := Nat.le_trans h.size k.size
  frame := fun j hj hn => by
    rw [k.frame j (Nat.lt_of_lt_of_le hj h.size) ?_, h.frame j hj hn]
    intro b e q hb hw hq hl he
    rcases h.fresh b e q hb hw hq hl with hf | ⟨b0, e0, q0, h1, h2, h3, h5, h4⟩
    · omega
    · exact hn b0 e0 q0 h1 h2 h3 h5 (h4.trans he)
  mu := h.mu.trans h.len k.mu
  len := Nat.le_trans h.len k.len
  hrel := k.hrel
  fresh := fun b e q hb hw hq hl => by
    rcases k.fresh b e q hb hw hq hl with hf | ⟨b0, e0, q0, h1, h2, h3, h5, h4⟩
    · exact .inl (Nat.le_trans h.size hf)
    · rw [← h4]; exact h.fresh b0 e0 q0 h1 h2 h3 h5
/-- A world that differs in nothing but what was drawn. -/
theorem HRel.drawn {μ : Mu} {H : Heap} {w : World} (h : HRel μ H w) (n : Nat) : HRel μ H { w with drawn := n } :=
  ⟨fun b e hb q hq => ⟨(h.rows b e hb q hq).z, (h.rows b e hb q hq).cells⟩, h.own, h.inj⟩
theorem Step.drawn {μ μ' : Mu} {H H' : Heap} {w w' : World} (h : Step μ H w μ' H' w') (n : Nat) : Step μ H w μ' H' { w' with drawn := n } :=
  ⟨h.os, h.tape, h.output, h.size, h.frame, h.mu, h.len, h.hrel.drawn n, h.fresh⟩
end Go.Proofs.YtkpojkhedmeneaaE
