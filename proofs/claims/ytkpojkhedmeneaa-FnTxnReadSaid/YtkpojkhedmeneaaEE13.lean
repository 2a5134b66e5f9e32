/- A part of the proof of a law of the given program: the logic of runs over laid-out memory. No condition of its own. -/
import Derived.Test.YtkpojkhedmeneaaEE12
namespace Go.Proofs.YtkpojkhedmeneaaE
open Go.RowKit
/-! ### the same, to be computed -/
abbrev RL := List (Nat × Nat)
def rl (l : RL) : Ren := fun b q => ((l.getD b (0, 0)).1, q, (l.getD b (0, 0)).2)
def cL (l : RL) (n : Nat) : DV → DV → Prop
  | x, .any => True
  | x, .int k a => match x with | .int k' a' => k' = k ∧ a' = a | _ => False
  | x, .bool a => match x with | .bool a' => a' = a | _ => False
  | x, .str a => match x with | .str a' => a' = a | _ => False
  | x, .nilp => match x with | .nilp => True | _ => False
  | x, .nils => match x with | .nils => True | _ => False
  | x, .ptr b q i o => match x with | .ptr b' q' i' o' => b < n ∧ b' = (l.getD b (0, 0)).1 ∧ q' = q ∧ i' = i + (l.getD b (0, 0)).2 ∧ o' = o | _ => False
  | x, .sl b q i len cap => match x with
    | .sl b' q' i' len' cap' => b < n ∧ b' = (l.getD b (0, 0)).1 ∧ q' = q ∧ i' = i + (l.getD b (0, 0)).2 ∧ len' = len ∧ cap ≤ cap'
    | .nils => b < n ∧ len = 0 ∧ cap = 0
    | _ => False
  | x, .fn f caps => match x with | .fn f' caps' => caps.all (fun b => decide (b < n) && (l.getD b (0, 0)).2 == 0) = true ∧ f' = f ∧ caps' = caps.map fun b => (l.getD b (0, 0)).1 | _ => False
  | x, .agg _ => False
  | x, .tup _ => False
theorem cL_ok {l : RL} {n : Nat} {x y : DV} (h : cL l n x y) : LeLeaf (rl l) n x y := by
  cases y with
  | any => exact trivial
  | ptr b q i o => cases x <;> simp only [cL] at h; obtain ⟨h1, rfl, rfl, rfl, rfl⟩ := h; exact ⟨h1, rfl⟩
  | sl b q i len cap =>
    cases x <;> simp only [cL] at h
    case nils => obtain ⟨h1, rfl, rfl⟩ := h; exact ⟨h1, .inl ⟨rfl, rfl, rfl⟩⟩
    case sl => obtain ⟨h1, rfl, rfl, rfl, rfl, h2⟩ := h; exact ⟨h1, .inr ⟨_, h2, rfl⟩⟩
  | fn f caps =>
    cases x <;> simp only [cL] at h
    obtain ⟨h1, rfl, rfl⟩ := h
    rw [List.all_eq_true] at h1
    refine ⟨fun b hb => ?_, rfl⟩
    have := h1 b hb
    simp only [Bool.and_eq_true, decide_eq_true_eq, beq_iff_eq] at this
    exact ⟨this.1, Prod.ext rfl this.2⟩
  | agg _ => cases x <;> exact h.elim
  | tup _ => cases x <;> exact h.elim
  | int k a => cases x <;> simp only [cL] at h; obtain ⟨rfl, rfl⟩ := h; rfl
  | bool a => cases x <;> simp only [cL] at h; subst h; rfl
  | str a => cases x <;> simp only [cL] at h; subst h; rfl
  | nilp => cases x <;> simp only [cL] at h; rfl
  | nils => cases x <;> simp only [cL] at h; rfl
def cLs (l : RL) (n : Nat) : List DV → List DV → Prop
  | [], [] => True
  | x :: xs, y :: ys => cL l n x y ∧ cLs l n xs ys
  | _, _ => False
theorem cLs_ok {l : RL} {n : Nat} : ∀ {xs ys : List DV}, cLs l n xs ys → L2 (LeLeaf (rl l) n) xs ys
  | [], [], _ => trivial
  | _ :: _, _ :: _, h => ⟨cL_ok h.1, cLs_ok h.2⟩
  | [], _ :: _, h => h.elim
  | _ :: _, [], h => h.elim
def cE (l : RL) (n : Nat) (x y : DV) : Prop :=
  match y with
  | .agg ys => match x with | .agg xs => cLs l n xs ys | _ => False
  | y => cL l n x y
theorem cE_ok {l : RL} {n : Nat} {x y : DV} (h : cE l n x y) : LeElem (rl l) n x y := by
  cases y with
  | agg ys => cases x <;> simp only [cE] at h; exact ⟨_, rfl, cLs_ok h⟩
  | tup ys => cases x <;> exact (show False from h).elim
  | any => exact trivial
  | int k a => exact cL_ok (l := l) (n := n) (x := x) (y := .int k a) h
  | bool a => exact cL_ok (l := l) (n := n) (x := x) (y := .bool a) h
  | str a => exact cL_ok (l := l) (n := n) (x := x) (y := .str a) h
  | nilp => exact cL_ok (l := l) (n := n) (x := x) (y := .nilp) h
  | nils => exact cL_ok (l := l) (n := n) (x := x) (y := .nils) h
  | ptr b q i o => exact cL_ok (l := l) (n := n) (x := x) (y := .ptr b q i o) h
  | sl b q i a c => exact cL_ok (l := l) (n := n) (x := x) (y := .sl b q i a c) h
  | fn f caps => exact cL_ok (l := l) (n := n) (x := x) (y := .fn f caps) h
def cEs (l : RL) (n : Nat) : List DV → List DV → Prop
  | [], [] => True
  | x :: xs, y :: ys => cE l n x y ∧ cEs l n xs ys
  | _, _ => False
theorem cEs_ok {l : RL} {n : Nat} : ∀ {xs ys : List DV}, cEs l n xs ys → L2 (LeElem (rl l) n) xs ys
  | [], [], _ => trivial
  | _ :: _, _ :: _, h => ⟨cE_ok h.1, cEs_ok h.2⟩
  | [], _ :: _, h => h.elim
  | _ :: _, [], h => h.elim
def cV (l : RL) (n : Nat) (x y : DV) : Prop :=
  match y with
  | .tup ys => match x with | .tup xs => cEs l n xs ys | _ => False
  | y => cE l n x y
theorem cV_ok {l : RL} {n : Nat} {x y : DV} (h : cV l n x y) : LeV (rl l) n x y := by
  cases y with
  | tup ys => cases x <;> simp only [cV] at h; exact ⟨_, rfl, cEs_ok h⟩
  | agg ys => exact cE_ok (y := .agg ys) h
  | any => exact trivial
  | int k a => exact cE_ok (l := l) (n := n) (x := x) (y := .int k a) h
  | bool a => exact cE_ok (l := l) (n := n) (x := x) (y := .bool a) h
  | str a => exact cE_ok (l := l) (n := n) (x := x) (y := .str a) h
  | nilp => exact cE_ok (l := l) (n := n) (x := x) (y := .nilp) h
  | nils => exact cE_ok (l := l) (n := n) (x := x) (y := .nils) h
  | ptr b q i o => exact cE_ok (l := l) (n := n) (x := x) (y := .ptr b q i o) h
  | sl b q i a c => exact cE_ok (l := l) (n := n) (x := x) (y := .sl b q i a c) h
  | fn f caps => exact cE_ok (l := l) (n := n) (x := x) (y := .fn f caps) h
def cVs (l : RL) (n : Nat) : List DV → List DV → Prop
  | [], [] => True
  | x :: xs, y :: ys => cV l n x y ∧ cVs l n xs ys
  | _, _ => False
theorem cVs_ok {l : RL} {n : Nat} : ∀ {xs ys : List DV}, cVs l n xs ys → L2 (LeV (rl l) n) xs ys
  | [], [], _ => trivial
  | _ :: _, _ :: _, h => ⟨cV_ok h.1, cVs_ok h.2⟩
  | [], _ :: _, h => h.elim
  | _ :: _, [], h => h.elim
/-- A row, as little as is told of it. -/
def cEls (l : RL) (n s : Nat) (r1 : Row) : Nat → List (List DV) → Prop
  | _, [] => True
  | i, es :: xs => i + s < r1.n ∧ cLs l n (r1.at (i + s)) es ∧ cEls l n s r1 (i + 1) xs
def cRow (l : RL) (n s : Nat) (r1 : Row) (r2 : Row) : Prop :=
  match r2 with
  | .lst z xs => r1.z = z ∧ cEls l n s r1 0 xs
  | .arr z m f => r1.z = z ∧ ∀ i, i < m → i + s < r1.n ∧ cLs l n (r1.at (i + s)) (f i)
theorem cEls_ok {l : RL} {n s : Nat} {r1 : Row} : ∀ {xs : List (List DV)} {i : Nat}, cEls l n s r1 i xs → ∀ j, j < xs.length → i + j + s < r1.n ∧ L2 (LeLeaf (rl l) n) (r1.at (i + j + s)) (xs.getD j [])
  | [], _, _, j, hj => by simp at hj
  | es :: xs, i, h, 0, _ => ⟨h.1, cLs_ok h.2.1⟩
  | es :: xs, i, h, j + 1, hj => by
    have := cEls_ok h.2.2 j (by simpa using hj)
    rw [show i + (j + 1) = i + 1 + j by omega]
    simpa using this
theorem cRow_ok {l : RL} {n s : Nat} {r1 r2 : Row} (h : cRow l n s r1 r2) : r1.z = r2.z ∧ ∀ i, i < r2.n → i + s < r1.n ∧ L2 (LeLeaf (rl l) n) (r1.at (i + s)) (r2.at i) := by
  cases r2 with
  | lst z xs => exact ⟨h.1, fun i hi => by have := cEls_ok h.2 i hi; rwa [Nat.zero_add] at this⟩
  | arr z m f => exact ⟨h.1, fun i hi => ⟨(h.2 i hi).1, cLs_ok (h.2 i hi).2⟩⟩
def cEnt (l : RL) (n : Nat) (H1 : Heap) (b : Nat) (x : Option Ent) : Prop :=
  match x with
  | none => True
  | some e2 => match look H1 (l.getD b (0, 0)).1 with
    | none => False
    | some e1 => (e2.w = true → e1.w = true ∧ (l.getD b (0, 0)).2 = 0) ∧ match e2 with
      | .one _ r => 0 < e1.m ∧ cRow l n (l.getD b (0, 0)).2 (e1.row 0) r
      | .fam _ m f => m ≤ e1.m ∧ ∀ q, q < m → cRow l n (l.getD b (0, 0)).2 (e1.row q) (f q)
def cView (l : RL) (n : Nat) (H1 : Heap) : Nat → Heap → Prop
  | _, [] => True
  | b, x :: H => cEnt l n H1 b x ∧ cView l n H1 (b + 1) H
theorem cView_look {l : RL} {n : Nat} {H1 : Heap} : ∀ {H : Heap} {b : Nat}, cView l n H1 b H → ∀ k e, look H k = some e → cEnt l n H1 (b + k) (some e)
  | [], _, _, k, e, h => by simp [look] at h
  | x :: H, b, h, 0, e, he => by
    have : x = some e := by simpa [look] using he
    rw [← this]; exact h.1
  | x :: H, b, h, k + 1, e, he => by
    have := cView_look h.2 k e (by simpa [look] using he)
    rwa [show b + (k + 1) = b + 1 + k by omega]
/-- No block of the callee's own view is written, or no two are one. -/
def fstNodup : RL → Bool
  | [] => true
  | p :: l => !(l.any fun x => x.1 == p.1) && fstNodup l
def noW (H : Heap) : Bool := H.all fun x => match x with | some e => !e.w | none => true
theorem fstNodup_ok : ∀ {l : RL}, fstNodup l = true → ∀ i j, i < l.length → j < l.length → i ≠ j → (l.getD i (0, 0)).1 ≠ (l.getD j (0, 0)).1
  | [], _, i, _, hi, _, _ => by simp at hi
  | p :: l, h, i, j, hi, hj, hne => by
    simp only [fstNodup, Bool.and_eq_true, Bool.not_eq_true', List.any_eq_false, beq_iff_eq] at h
    obtain ⟨h1, h2⟩ := h
    match i, j with
    | 0, 0 => exact absurd rfl hne
    | 0, j + 1 =>
      simp only [List.getD_cons_zero, List.getD_cons_succ]
      have hjl : j < l.length := by simpa using hj
      intro e
      refine h1 (l.getD j (0, 0)) ?_ e.symm
      rw [List.getD_eq_getElem?_getD, List.getElem?_eq_getElem hjl]; exact List.getElem_mem hjl
    | i + 1, 0 =>
      simp only [List.getD_cons_zero, List.getD_cons_succ]
      have hil : i < l.length := by simpa using hi
      intro e
      refine h1 (l.getD i (0, 0)) ?_ e
      rw [List.getD_eq_getElem?_getD, List.getElem?_eq_getElem hil]; exact List.getElem_mem hil
    | i + 1, j + 1 =>
      simp only [List.getD_cons_succ]
      exact fstNodup_ok h2 i j (by simpa using hi) (by simpa using hj) (by omega)
theorem noW_ok {H : Heap} (h : noW H = true) {b : Nat} {e : Ent} (hb : look H b = some e) : e.w = false := by
  rw [look_some] at hb
  have := List.all_eq_true.1 h (some e) (List.mem_of_getElem? hb)
  simpa using this
theorem View.of {l : RL} {H1 H2 : Heap} (hlen : H2.length ≤ l.length) (hnd : noW H2 = true ∨ fstNodup l = true) (h : cView l H2.length H1 0 H2) : View (rl l) H1 H2 := by
  refine ⟨fun b e2 he q hq => ?_, fun b e q b' e' q' h1 h2 h3 h4 h5 h6 => ?_⟩
  · have hc := cView_look h b e2 he
    rw [Nat.zero_add] at hc
    unfold cEnt at hc
    simp only at hc
    cases hl : look H1 (l.getD b (0, 0)).1 with
    | none => rw [hl] at hc; exact hc.elim
    | some e1 =>
      rw [hl] at hc
      simp only at hc
      refine ⟨e1, hl, ?_⟩
      cases e2 with
      | one w r =>
        obtain rfl : q = 0 := by simp only [Ent.m] at hq; omega
        obtain ⟨k1, k2, k3⟩ := hc
        obtain ⟨g1, g2⟩ := cRow_ok k3
        exact ⟨k2, k1, g1, g2⟩
      | fam w m f =>
        simp only [Ent.m] at hq
        obtain ⟨k1, k2, k3⟩ := hc
        obtain ⟨g1, g2⟩ := cRow_ok (k3 q hq)
        exact ⟨by show q < e1.m; omega, k1, g1, g2⟩
  · rcases hnd with hnd | hnd
    · rw [noW_ok hnd h1] at h2; cases h2
    · by_cases hb : b = b'
      · right
        rcases h6 with h6 | h6
        · exact absurd hb h6
        · exact h6
      · left
        exact fstNodup_ok hnd b b' (Nat.lt_of_lt_of_le (look_lt h1) hlen) (Nat.lt_of_lt_of_le (look_lt h4) hlen) hb
def idTo : Nat → RL → Nat → Bool
  | 0, _, _ => true
  | n + 1, p :: l, b => p.1 == b && p.2 == 0 && idTo n l (b + 1)
  | _ + 1, [], _ => false
theorem idTo_ok : ∀ {n : Nat} {l : RL} {b : Nat}, idTo n l b = true → n ≤ l.length ∧ ∀ k, k < n → l.getD k (0, 0) = (b + k, 0)
  | 0, _, _, _ => ⟨Nat.zero_le _, fun k hk => by omega⟩
  | n + 1, p :: l, b, h => by
    simp only [idTo, Bool.and_eq_true, beq_iff_eq] at h
    obtain ⟨⟨h1, h2⟩, h3⟩ := h
    obtain ⟨g1, g2⟩ := idTo_ok h3
    refine ⟨by simp; omega, fun k hk => ?_⟩
    match k with
    | 0 => simp only [List.getD_cons_zero, Nat.add_zero]; exact Prod.ext h1 h2
    | k + 1 => simp only [List.getD_cons_succ]; rw [g2 k (by omega)]; congr 1; omega
  | _ + 1, [], _, h => by simp [idTo] at h
def outP (T : Tab) (n0 : Nat) (rs : Array ResultVar) (v : DV) (H' : Heap) (s : St) (l : RL) : Prop :=
  match outOf T s.H rs s.r with
  | some (q, x) => q ∧ (idTo n0 l 0 && decide (H'.length ≤ l.length) && decide (n0 ≤ H'.length) && (noW H' || fstNodup l)) = true ∧ cV l H'.length x v ∧ cView l H'.length s.H 0 H'
  | none => False
theorem Out.of {T : Tab} {n0 : Nat} {rs : Array ResultVar} {v : DV} {H' : Heap} {s : St} (l : RL) (h : outP T n0 rs v H' s l) : Out T n0 rs v H' s := by
  unfold outP at h
  split at h
  case h_2 => exact h.elim
  rename_i q x ho
  obtain ⟨h1, h2, h3, h4⟩ := h
  simp only [Bool.and_eq_true, Bool.or_eq_true, decide_eq_true_eq] at h2
  obtain ⟨⟨⟨h5, h6⟩, h7⟩, h8⟩ := h2
  obtain ⟨g1, g2⟩ := idTo_ok h5
  exact ⟨rl l, q, x, ho, h1, cV_ok h3, View.of h6 h8 h4, fun b hb q => by simp only [rl]; rw [g2 b hb]; simp, h7⟩
/-- Less is known from here on: the new state, and where its blocks come from. -/
theorem D.less {P : Program} {n0 : Nat} {t : List Item} {Qd : St → Prop} {s : St} (l : RL) (s' : St)
    (hb : (idTo n0 l 0 && decide (s'.H.length ≤ l.length) && decide (n0 ≤ s'.H.length) && (noW s'.H || fstNodup l)) = true) (hr : cVs l s'.H.length s.r s'.r) (hv : cView l s'.H.length s.H 0 s'.H) (h : D P n0 t s' Qd) : D P n0 t s Qd := by
  simp only [Bool.and_eq_true, Bool.or_eq_true, decide_eq_true_eq] at hb
  obtain ⟨⟨⟨h5, h6⟩, h7⟩, h8⟩ := hb
  obtain ⟨g1, g2⟩ := idTo_ok h5
  exact D.weak (rl l) (cVs_ok hr) (View.of h6 h8 hv) (fun b hb q => by simp only [rl]; rw [g2 b hb]; simp) h7 h

def lessP (n0 : Nat) (l : RL) (s s' : St) : Prop :=
  (idTo n0 l 0 && decide (s'.H.length ≤ l.length) && decide (n0 ≤ s'.H.length) && (noW s'.H || fstNodup l)) = true ∧ cVs l s'.H.length s.r s'.r ∧ cView l s'.H.length s.H 0 s'.H
theorem At.less {μ0 : Mu} {H0 : Heap} {w0 w : World} {s s' : St} {a : Act} {l : RL} (ha : At μ0 H0 w0 s a w) (h : lessP H0.length l s s') : At μ0 H0 w0 s' a w := by
  obtain ⟨hb, hr, hv⟩ := h
  simp only [Bool.and_eq_true, Bool.or_eq_true, decide_eq_true_eq] at hb
  obtain ⟨⟨⟨h5, h6⟩, h7⟩, h8⟩ := hb
  obtain ⟨g1, g2⟩ := idTo_ok h5
  obtain ⟨μ, h1, h2⟩ := ha.ex
  exact ⟨⟨μ.via (rl l), LeVs.ok h1 (cVs_ok hr), h2.view (View.of h6 h8 hv) (fun b hb q => by simp only [rl]; rw [g2 b hb]; simp) h7⟩, ha.defers⟩
/-- A loop: 'S i' is what is known at its head where 'I i'; each round lowers 'm'. -/
theorem D.loopI {P : Program} {n0 : Nat} {t : List Item} {Qd : St → Prop} {c : Code} {s : St} {ι : Type} (S : ι → St) (I : ι → Prop) (m : ι → Nat) (i : ι) (l : RL) (hI : I i) (h0 : lessP n0 l s (S i))
    (round : ∀ i, I i → D P n0 (.code c :: .back (fun s' => ∃ i' l', I i' ∧ m i' < m i ∧ lessP n0 l' s' (S i')) :: t) (S i) Qd) : D P n0 (.code (.loop c) :: t) s Qd := by
  intro μ0 H0 w0 e a w ha
  refine wp_loop_rel (fun n a w => ∃ i, m i = n ∧ I i ∧ At μ0 H0 w0 (S i) a w) ?_ ⟨i, rfl, hI, ha.less (by rw [e]; exact h0)⟩
  rintro n a w ⟨i, rfl, hI, ha⟩
  have := round i hI μ0 H0 w0 e a w ha
  refine wp_mono (show c.wp P (CP P (At μ0 H0 w0) (.back _ :: t) _) a w from this) fun e' a w hq => ?_
  cases e' <;> try exact hq
  obtain ⟨s, ⟨i', l', hI', hlt, hl⟩, hs⟩ := hq
  exact ⟨m i', hlt, i', rfl, hI', hs.less (by rw [e]; exact hl)⟩
def rg (n : Nat) : List (Nat × DV) → List DV
  | [] => List.replicate n .any
  | (i, x) :: l => (rg n l).set i x

/-! ### calls -/
def jsOf : Nat → RL → Heap → List (Nat × Nat)
  | j, p :: l, some e :: H => if e.w then (p.1, j) :: jsOf (j + 1) l H else jsOf (j + 1) l H
  | j, _ :: l, none :: H => jsOf (j + 1) l H
  | _, _, _ => []
def wOk : RL → Heap → Heap → Bool
  | p :: l, some e :: H, x :: H' => (!e.w || (p.2 == 0 && (match x with | some e' => e'.w && e'.m == e.m | none => true))) && wOk l H H'
  | _ :: l, none :: H, _ :: H' => wOk l H H'
  | _, [], _ => true
  | _, _, _ => false
def allW (H : Heap) : Bool := H.all fun x => match x with | some e => e.w | none => true
theorem allW_ok {H : Heap} (h : allW H = true) {b : Nat} {e : Ent} (hb : look H b = some e) : e.w = true := by
  rw [look_some] at hb
  exact List.all_eq_true.1 h (some e) (List.mem_of_getElem? hb)
theorem jsOf_mem : ∀ {j0 : Nat} {l : RL} {H : Heap} {b j : Nat}, (b, j) ∈ jsOf j0 l H → ∃ k e, j = j0 + k ∧ look H k = some e ∧ e.w = true ∧ k < l.length ∧ (l.getD k (0, 0)).1 = b
  | j0, [], H, b, j, h => by cases H with | nil => simp [jsOf] at h | cons x H => cases x <;> simp [jsOf] at h
  | j0, p :: l, [], b, j, h => by simp [jsOf] at h
  | j0, p :: l, none :: H, b, j, h => by
    simp only [jsOf] at h
    obtain ⟨k, e, h1, h2, h3, h4, h5⟩ := jsOf_mem h
    exact ⟨k + 1, e, by omega, by simpa [look] using h2, h3, by simpa using h4, by simpa using h5⟩
  | j0, p :: l, some e :: H, b, j, h => by
    have hrec : (b, j) ∈ jsOf (j0 + 1) l H → ∃ k e1, j = j0 + k ∧ look (some e :: H) k = some e1 ∧ e1.w = true ∧ k < (p :: l).length ∧ ((p :: l).getD k (0, 0)).1 = b := by
      intro h
      obtain ⟨k, e, h1, h2, h3, h4, h5⟩ := jsOf_mem h
      exact ⟨k + 1, e, by omega, by simpa [look] using h2, h3, by simpa using h4, by simpa using h5⟩
    simp only [jsOf] at h
    split at h
    · rename_i hw
      rcases List.mem_cons.1 h with h | h
      · obtain ⟨rfl, rfl⟩ := Prod.mk.inj h
        exact ⟨0, e, rfl, by simp [look], hw, by simp, rfl⟩
      · exact hrec h
    · exact hrec h
theorem jsOf_has : ∀ {j0 : Nat} {l : RL} {H : Heap} {k : Nat} {e : Ent}, look H k = some e → e.w = true → k < l.length → ((l.getD k (0, 0)).1, j0 + k) ∈ jsOf j0 l H
  | j0, [], H, k, e, _, _, hk => by simp at hk
  | j0, p :: l, [], k, e, h, _, _ => by simp [look] at h
  | j0, p :: l, x :: H, 0, e, h, hw, _ => by
    have : x = some e := by simpa [look] using h
    subst this
    simp [jsOf, hw]
  | j0, p :: l, none :: H, k + 1, e, h, hw, hk => by
    have := jsOf_has (j0 := j0 + 1) (l := l) (H := H) (k := k) (e := e) (by simpa [look] using h) hw (by simpa using hk)
    simp only [jsOf, List.getD_cons_succ]
    rwa [show j0 + (k + 1) = j0 + 1 + k by omega]
  | j0, p :: l, some e0 :: H, k + 1, e, h, hw, hk => by
    have := jsOf_has (j0 := j0 + 1) (l := l) (H := H) (k := k) (e := e) (by simpa [look] using h) hw (by simpa using hk)
    simp only [jsOf, List.getD_cons_succ]
    rw [show j0 + (k + 1) = j0 + 1 + k by omega]
    split
    · exact List.mem_cons_of_mem _ this
    · exact this
theorem wOk_look : ∀ {l : RL} {H H' : Heap}, wOk l H H' = true → H.length ≤ H'.length ∧ ∀ k e, look H k = some e → e.w = true → (l.getD k (0, 0)).2 = 0 ∧ ∀ e', look H' k = some e' → e'.m = e.m ∧ e'.w = true
  | l, [], H', _ => ⟨Nat.zero_le _, fun k e h => by simp [look] at h⟩
  | p :: l, some e0 :: H, x :: H', h => by
    simp only [wOk, Bool.and_eq_true, Bool.or_eq_true, Bool.not_eq_true', beq_iff_eq] at h
    obtain ⟨g1, g2⟩ := wOk_look h.2
    refine ⟨by simp; omega, fun k e hk hw => ?_⟩
    match k with
    | 0 =>
      obtain rfl : e0 = e := by simpa [look] using hk
      rcases h.1 with h1 | ⟨h1, h2⟩
      · rw [hw] at h1; cases h1
      · refine ⟨h1, fun e' he' => ?_⟩
        have hx : x = some e' := by simpa [look] using he'
        rw [hx] at h2
        simp only [Bool.and_eq_true, beq_iff_eq] at h2
        exact ⟨h2.2, h2.1⟩
    | k + 1 =>
      obtain ⟨f1, f2⟩ := g2 k e (by simpa [look] using hk) hw
      exact ⟨by simpa using f1, fun e' he' => f2 e' (by simpa [look] using he')⟩
  | p :: l, none :: H, x :: H', h => by
    simp only [wOk] at h
    obtain ⟨g1, g2⟩ := wOk_look h
    refine ⟨by simp; omega, fun k e hk hw => ?_⟩
    match k with
    | 0 => simp [look] at hk
    | k + 1 =>
      obtain ⟨f1, f2⟩ := g2 k e (by simpa [look] using hk) hw
      exact ⟨by simpa using f1, fun e' he' => f2 e' (by simpa [look] using he')⟩
  | [], x :: H, H', h => by simp [wOk] at h
  | p :: l, some e :: H, [], h => by simp [wOk] at h
  | p :: l, none :: H, [], h => by simp [wOk] at h
def callOk (l : RL) (H Hs Hs' : Heap) : Bool :=
  decide (l.length = Hs.length) && l.all (fun p => decide (p.1 < H.length)) && (noW Hs || fstNodup l) && wOk l Hs Hs' && allW (Hs'.drop Hs.length)
def sig (l : RL) (ns nc : Nat) : Ren := sigma (rl l) ns nc
theorem lookup_mem : ∀ {js : List (Nat × Nat)} {b j : Nat}, js.lookup b = some j → (b, j) ∈ js
  | [], b, j, h => by simp at h
  | (b0, j0) :: js, b, j, h => by
    rw [List.lookup_cons] at h
    split at h
    · rename_i hb
      cases h
      simp only [beq_iff_eq] at hb
      subst hb
      exact List.mem_cons_self ..
    · exact List.mem_cons_of_mem _ (lookup_mem h)
theorem lookup_uniq : ∀ {js : List (Nat × Nat)} {b j : Nat}, (b, j) ∈ js → (∀ j', (b, j') ∈ js → j' = j) → js.lookup b = some j
  | [], b, j, h, _ => by simp at h
  | (b0, j0) :: js, b, j, h, hu => by
    rw [List.lookup_cons]
    by_cases hb : b = b0
    · subst hb
      simp only [beq_self_eq_true]
      rw [hu j0 (List.mem_cons_self ..)]
    · have : (b == b0) = false := by simpa using hb
      rw [this]
      rcases List.mem_cons.1 h with h | h
      · exact absurd (Prod.mk.inj h).1 hb
      · exact lookup_uniq h fun j' hj' => hu j' (List.mem_cons_of_mem _ hj')
def callP (f : FuncId) (r : List DV) (H : Heap) (c : Op) (argsS : List DV) (Hs : Heap) (v : DV) (Hs' : Heap) (l : RL) (K : DV → Heap → Prop) : Prop :=
  match c with
  | .call { callee := .value x, args := as, argTypes := _ } =>
    match ev r x with
    | .fn f' caps => f' = f ∧ callOk l H Hs Hs' = true ∧ cVs l Hs.length (as.toList.map (ev r) ++ capV caps) argsS ∧ cView l Hs.length H 0 Hs ∧
        K (renV (sig l Hs.length H.length) v) (afterH (sig l Hs.length H.length) Hs.length (jsOf 0 l Hs) H Hs')
    | _ => False
  | _ => False
theorem OpT.callP {P : Program} {o : Oper} {r : List DV} {H Hs Hs' : Heap} {f : FuncId} {fn : Func} {argsS : List DV} {v : DV} {l : RL} {K : DV → Heap → Prop} (hf : P.funcs[f]? = some fn) (hn : (fn.name == "runtime.NumGoroutine") = false) (hb : fn.body.isSome = true)
    (ht : Tri P f argsS Hs v Hs') (h : Go.Proofs.YtkpojkhedmeneaaE.callP f r H o.op argsS Hs v Hs' l K) : ∃ v' H', OpT P o r H v' H' ∧ K v' H' := by
  unfold Go.Proofs.YtkpojkhedmeneaaE.callP at h
  split at h
  case h_2 => exact h.elim
  rename_i x as ts ho
  split at h
  case h_2 => exact h.elim
  rename_i f' caps hx
  obtain ⟨rfl, h1, h2, h3, h4⟩ := h
  simp only [callOk, Bool.and_eq_true, Bool.or_eq_true, decide_eq_true_eq] at h1
  obtain ⟨⟨⟨⟨c1, c2⟩, c3⟩, c4⟩, c5⟩ := h1
  obtain ⟨g1, g2⟩ := wOk_look c4
  refine ⟨_, _, OpT.call ho hx hf hn hb ht (cVs_ok h2) (View.of (by omega) c3 h3) (fun b hb q => ?_) (js := jsOf 0 l Hs) (fun b j hbj => ?_) (fun j e he hw => ?_) (fun k e he => ?_), h4⟩
  · simp only [rl]
    rw [List.all_eq_true] at c2
    have := c2 (l.getD b (0, 0)) (by rw [List.getD_eq_getElem?_getD, List.getElem?_eq_getElem (by omega)]; exact List.getElem_mem _)
    simpa using this
  · obtain ⟨k, e, rfl, k2, k3, k4, k5⟩ := jsOf_mem (lookup_mem hbj)
    rw [Nat.zero_add]
    obtain ⟨f1, f2⟩ := g2 k e k2 k3
    rw [List.all_eq_true] at c2
    have := c2 (l.getD k (0, 0)) (by rw [List.getD_eq_getElem?_getD, List.getElem?_eq_getElem k4]; exact List.getElem_mem _)
    rw [k5] at this
    refine ⟨by simpa using this, look_lt k2, fun q => by simp only [rl]; rw [k5, f1], e, k2, k3, f2⟩
  · have hj := look_lt he
    have hm := jsOf_has (j0 := 0) (l := l) he hw (by omega)
    refine ⟨?_, fun q => rfl⟩
    simp only [rl]
    rw [Nat.zero_add] at hm
    refine lookup_uniq hm fun j' hj' => ?_
    obtain ⟨k, e2, rfl, k2, k3, k4, k5⟩ := jsOf_mem hj'
    rw [Nat.zero_add]
    rcases c3 with c3 | c3
    · rw [noW_ok c3 he] at hw; cases hw
    · by_cases hkj : k = j
      · exact hkj
      · exact absurd k5 (fstNodup_ok c3 k j k4 (by omega) hkj)
  · refine allW_ok c5 (b := k) ?_
    rw [look_some] at he ⊢
    rw [List.getElem?_drop]; exact he
/-- A call. -/
theorem D.call {P : Program} {n0 : Nat} {t : List Item} {s : St} {Qd : St → Prop} {R : Array Oper} {o : Oper} {os : List Oper} {Hs Hs' : Heap} {f : FuncId} {fn : Func} {argsS : List DV} {v : DV} (hf : P.funcs[f]? = some fn) (l : RL)
    (ht : Tri P f argsS Hs v Hs') (h : Go.Proofs.YtkpojkhedmeneaaE.callP f s.r s.H o.op argsS Hs v Hs' l fun v' H' => D P n0 (.ops R os :: t) ⟨put s.r o.dst v', H'⟩ Qd) (hg : o.guard = none := by rfl) (hn : (fn.name == "runtime.NumGoroutine") = false := by rfl) (hb : fn.body.isSome = true := by rfl) : D P n0 (.ops R (o :: os) :: t) s Qd := by
  obtain ⟨v', H', h1, h2⟩ := OpT.callP hf hn hb ht h
  exact D.op hg h1 h2
end Go.Proofs.YtkpojkhedmeneaaE
